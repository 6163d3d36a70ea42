/- The functions' plain forms. Printed by go3.py. No conditions. -/
import Derived.Test.YtmmijieefobdgaaGreatF43T
set_option linter.all false
set_option maxRecDepth 100000
open Go Go.Rx Go.Proofs Go.RowKit
namespace GoForm

noncomputable def caromref22_Few (bodies0 : (List Body)) (limit1 : Int) : Option Bool :=
  Let (↑bodies0.length : Int) fun (x1 : Int) =>
  Let (decide (x1 > limit1)) fun (x2 : Bool) =>
  if x2 = true then some false
  else
  LOOP
  (fun (rec3 : Int → Option Bool) (s4 : Int) =>
  Let (↑bodies0.length : Int) fun (x5 : Int) =>
  Let (decide (s4 < x5)) fun (x6 : Bool) =>
  if x6 = true then
  Chk ((0 : Int) ≤ s4 ∧ s4 < (↑bodies0.length : Int))
  (Let (ix bodies0 s4) fun (x7 : Body) =>
  Let (↑x7.Fixtures.length : Int) fun (x8 : Int) =>
  Let (decide (x8 > (8 : Int))) fun (x9 : Bool) =>
  if x9 = true then some false
  else
  LOOP
  (fun (rec10 : Int → Option Bool) (s11 : Int) =>
  Chk ((0 : Int) ≤ s4 ∧ s4 < (↑bodies0.length : Int))
  (Let (ix bodies0 s4) fun (x12 : Body) =>
  Let (↑x12.Fixtures.length : Int) fun (x13 : Int) =>
  Let (decide (s11 < x13)) fun (x14 : Bool) =>
  if x14 = true then
  Chk ((0 : Int) ≤ s4 ∧ s4 < (↑bodies0.length : Int))
  (Let (ix bodies0 s4) fun (x15 : Body) =>
  Chk ((0 : Int) ≤ s11 ∧ s11 < (↑x15.Fixtures.length : Int))
  (Let (ix x15.Fixtures s11) fun (x16 : Fixture) =>
  Let (↑x16.Shape.Vertices.length : Int) fun (x17 : Int) =>
  Let (decide (x17 > (20 : Int))) fun (x18 : Bool) =>
  if x18 = true then some false else Let (IntKind.i64.wrap (s11 + (1 : Int))) fun (x19 : Int) => rec10 x19))
  else Let (IntKind.i64.wrap (s4 + (1 : Int))) fun (x20 : Int) => rec3 x20))
  fuel (0 : Int))
  else some true)
  fuel (0 : Int)

noncomputable def caromlaw43_few (l0 : (List Input)) : Option Bool :=
  Let (↑l0.length : Int) fun (x21 : Int) =>
  Let (decide (x21 > (40 : Int))) fun (x22 : Bool) =>
  if x22 = true then some false
  else
  LOOP
  (fun (rec23 : Int → Option Bool) (s24 : Int) =>
  Let (↑l0.length : Int) fun (x25 : Int) =>
  Let (decide (s24 < x25)) fun (x26 : Bool) =>
  if x26 = true then
  Chk ((0 : Int) ≤ s24 ∧ s24 < (↑l0.length : Int))
  (Let (ix l0 s24) fun (x27 : Input) =>
  Rx.Bind (caromref22_Few [x27.Body] (1 : Int)) fun (r28 : Bool) =>
  Let (!r28) fun (x29 : Bool) =>
  if x29 = true then some false else Let (IntKind.i64.wrap (s24 + (1 : Int))) fun (x30 : Int) => rec23 x30)
  else some true)
  fuel (0 : Int)

noncomputable def world_in (x0 : Int) (low1 : Int) (high2 : Int) : Option Bool :=
  Let (decide (x0 ≥ low1)) fun (x31 : Bool) =>
  Let (decide (x0 ≤ high2)) fun (x32 : Bool) => Let (bif x31 then x32 else false) fun (x33 : Bool) => some x33

noncomputable def world_ValidateSettings (s0 : Settings) : Option Int :=
  Rx.Bind (world_in s0.Gravity.X (-16777216 : Int) (16777216 : Int)) fun (r34 : Bool) =>
  Rx.Bind (if (r34 == true) = true then world_in s0.Gravity.Y (-16777216 : Int) (16777216 : Int) else some default)
  fun (r35 : Bool) =>
  Let (bif r34 then r35 else false) fun (x36 : Bool) =>
  Rx.Bind (world_in s0.TimeStep (64 : Int) (8192 : Int)) fun (r37 : Bool) =>
  Let (!r37) fun (x38 : Bool) =>
  Let (!x36) fun (x39 : Bool) =>
  Let (bif x38 then true else x39) fun (x40 : Bool) =>
  Rx.Bind (if (x40 == false) = true then world_in s0.Iterations (1 : Int) (32 : Int) else some default)
  fun (r41 : Bool) =>
  Let (!r41) fun (x42 : Bool) =>
  Let (bif x40 then true else x42) fun (x43 : Bool) =>
  Rx.Bind (if (x43 == false) = true then world_in s0.SleepSteps (0 : Int) (1048576 : Int) else some default)
  fun (r44 : Bool) =>
  Let (!r44) fun (x45 : Bool) =>
  Let (bif x43 then true else x45) fun (x46 : Bool) => if x46 = true then some (6 : Int) else some (0 : Int)

noncomputable def body_within (x0 : Int) (low1 : Int) (high2 : Int) : Option Bool :=
  Let (decide (low1 ≤ x0)) fun (x47 : Bool) =>
  Let (decide (x0 ≤ high2)) fun (x48 : Bool) => Let (bif x47 then x48 else false) fun (x49 : Bool) => some x49

noncomputable def body_bounded (v0 : Vec) (limit1 : Int) : Option Bool :=
  Let (IntKind.i64.wrap ((0 : Int) - limit1)) fun (x50 : Int) =>
  Rx.Bind (body_within v0.X x50 limit1) fun (r51 : Bool) =>
  Let (IntKind.i64.wrap ((0 : Int) - limit1)) fun (x52 : Int) =>
  Rx.Bind (if (r51 == true) = true then body_within v0.Y x52 limit1 else some default) fun (r53 : Bool) =>
  Let (bif r51 then r53 else false) fun (x54 : Bool) => some x54

noncomputable def transform_inWorld (x0 : Int) : Option Bool :=
  Let (decide (x0 ≥ (-268435456 : Int))) fun (x55 : Bool) =>
  Let (decide (x0 ≤ (268435456 : Int))) fun (x56 : Bool) => Let (bif x55 then x56 else false) fun (x57 : Bool) => some x57

noncomputable def transform_Valid (t0 : Transform) : Option Bool :=
  Rx.Bind (transform_inWorld t0.Position.X) fun (r58 : Bool) =>
  Rx.Bind (if (r58 == true) = true then transform_inWorld t0.Position.Y else some default) fun (r59 : Bool) =>
  Let (bif r58 then r59 else false) fun (x60 : Bool) =>
  Let (decide (t0.Angle ≥ (-205888 : Int))) fun (x61 : Bool) =>
  Let (bif x60 then x61 else false) fun (x62 : Bool) =>
  Let (decide (t0.Angle < (205888 : Int))) fun (x63 : Bool) =>
  Let (bif x62 then x63 else false) fun (x64 : Bool) => some x64

noncomputable def body_inRange (b0 : Body) : Option Bool :=
  Rx.Bind (body_bounded b0.Velocity (16777216 : Int)) fun (r65 : Bool) =>
  Rx.Bind (if (r65 == true) = true then body_within b0.AngularVelocity (-4194304 : Int) (4194304 : Int) else some default)
  fun (r66 : Bool) =>
  Let (bif r65 then r66 else false) fun (x67 : Bool) =>
  Rx.Bind (body_bounded b0.Force (536870911 : Int)) fun (r68 : Bool) =>
  Rx.Bind (if (r68 == true) = true then body_within b0.Torque (-536870911 : Int) (536870911 : Int) else some default)
  fun (r69 : Bool) =>
  Let (bif r68 then r69 else false) fun (x70 : Bool) =>
  Rx.Bind (body_within b0.LinearDamping (0 : Int) (65536 : Int)) fun (r71 : Bool) =>
  Rx.Bind (if (r71 == true) = true then body_within b0.AngularDamping (0 : Int) (65536 : Int) else some default)
  fun (r72 : Bool) =>
  Let (bif r71 then r72 else false) fun (x73 : Bool) =>
  Rx.Bind (body_within b0.GravityScale (-262144 : Int) (262144 : Int)) fun (r74 : Bool) =>
  Rx.Bind (body_within b0.ID (1 : Int) (1099511627776 : Int)) fun (r75 : Bool) =>
  Rx.Bind (if (r75 == true) = true then transform_Valid b0.Transform else some default) fun (r76 : Bool) =>
  Let (bif r75 then r76 else false) fun (x77 : Bool) =>
  Let (bif x77 then x67 else false) fun (x78 : Bool) =>
  Let (bif x78 then x70 else false) fun (x79 : Bool) =>
  Let (bif x79 then x73 else false) fun (x80 : Bool) =>
  Let (bif x80 then r74 else false) fun (x81 : Bool) =>
  Rx.Bind (if (x81 == true) = true then body_within b0.IdleSteps (0 : Int) (1048576 : Int) else some default)
  fun (r82 : Bool) => Let (bif x81 then r82 else false) fun (x83 : Bool) => some x83

noncomputable def shape_validCount (s0 : Shape) : Option Bool :=
  Let (↑s0.Vertices.length : Int) fun (x84 : Int) =>
  Let (s0.Kind == (1 : Int)) fun (x85 : Bool) =>
  if x85 = true then Let (x84 == (1 : Int)) fun (x86 : Bool) => some x86
  else
  Let (s0.Kind == (2 : Int)) fun (x87 : Bool) =>
  if x87 = true then Let (x84 == (2 : Int)) fun (x88 : Bool) => some x88
  else
  Let (decide (x84 ≥ (3 : Int))) fun (x89 : Bool) =>
  Let (decide (x84 ≤ (8 : Int))) fun (x90 : Bool) => Let (bif x89 then x90 else false) fun (x91 : Bool) => some x91

noncomputable def slices_IndexFunc_239 (s0 : (List Vec)) (f1 : (Vec → Option Bool)) : Option Int :=
  Let (↑s0.length : Int) fun (x92 : Int) =>
  LOOP
  (fun (rec93 : Int → Option Int) (s94 : Int) =>
  Let (decide (s94 < x92)) fun (x95 : Bool) =>
  if x95 = true then
  Chk ((0 : Int) ≤ s94 ∧ s94 < (↑s0.length : Int))
  (Let (ix s0 s94) fun (x96 : Vec) =>
  Rx.Bind (f1 x96) fun (r97 : Bool) =>
  if r97 = true then some s94 else Let (IntKind.i64.wrap (s94 + (1 : Int))) fun (x98 : Int) => rec93 x98)
  else some (-1 : Int))
  fuel (0 : Int)

noncomputable def slices_ContainsFunc_208 (s0 : (List Vec)) (f1 : (Vec → Option Bool)) : Option Bool :=
  Rx.Bind (slices_IndexFunc_239 s0 f1) fun (r99 : Int) => Let (decide (r99 ≥ (0 : Int))) fun (x100 : Bool) => some x100

noncomputable def shape_outOfRange (n0 : Int) : Option Bool :=
  Let (decide (n0 < (-1048576 : Int))) fun (x101 : Bool) =>
  Let (decide (n0 > (1048576 : Int))) fun (x102 : Bool) =>
  Let (bif x101 then true else x102) fun (x103 : Bool) => some x103

noncomputable def shape_Validate_1 (v0 : Vec) : Option Bool :=
  Rx.Bind (shape_outOfRange v0.X) fun (r104 : Bool) =>
  Rx.Bind (if (r104 == false) = true then shape_outOfRange v0.Y else some default) fun (r105 : Bool) =>
  Let (bif r104 then true else r105) fun (x106 : Bool) => some x106

noncomputable def fixed_Saturate (x0 : Int) : Option Int :=
  Let (max x0 (-536870911 : Int)) fun (x107 : Int) => Let (min x107 (536870911 : Int)) fun (x108 : Int) => some x108

noncomputable def fixed_Sub (a0 : Int) (b1 : Int) : Option Int :=
  Rx.Bind (fixed_Saturate a0) fun (r109 : Int) =>
  Rx.Bind (fixed_Saturate b1) fun (r110 : Int) =>
  Let (IntKind.i64.wrap (r109 - r110)) fun (x111 : Int) => Rx.Bind (fixed_Saturate x111) fun (r112 : Int) => some r112

noncomputable def vec2_Sub (a0 : Vec) (b1 : Vec) : Option Vec :=
  Rx.Bind (fixed_Sub a0.X b1.X) fun (r113 : Int) =>
  Rx.Bind (fixed_Sub a0.Y b1.Y) fun (r114 : Int) => some { X := r113, Y := r114 : Vec }

noncomputable def vec2_saturate (v0 : Vec) : Option Vec :=
  Rx.Bind (fixed_Saturate v0.X) fun (r115 : Int) =>
  Rx.Bind (fixed_Saturate v0.Y) fun (r116 : Int) => some { X := r115, Y := r116 : Vec }

noncomputable def vec2_DistanceSquared (a0 : Vec) (b1 : Vec) : Option Int :=
  Rx.Bind (vec2_saturate a0) fun (r117 : Vec) =>
  Rx.Bind (vec2_saturate b1) fun (r118 : Vec) =>
  Let (IntKind.i64.wrap (r118.X - r117.X)) fun (x119 : Int) =>
  Let (IntKind.i64.wrap (r118.Y - r117.Y)) fun (x120 : Int) =>
  Let (IntKind.i64.wrap (x119 * x119)) fun (x121 : Int) =>
  Let (IntKind.i64.wrap (x120 * x120)) fun (x122 : Int) =>
  Let (IntKind.i64.wrap (x121 + x122)) fun (x123 : Int) => some x123

noncomputable def fixed_Isqrt (n0 : Int) : Option Int :=
  Let (decide (n0 < (0 : Int))) fun (x124 : Bool) =>
  Let (decide (n0 > (4611686018427387904 : Int))) fun (x125 : Bool) =>
  Let (bif x124 then true else x125) fun (x126 : Bool) =>
  if x126 = true then some (0 : Int)
  else
  LOOP
  (fun (rec127 : Int × Int → Option Int) (s128 : Int × Int) =>
  Let (decide (s128.snd > (0 : Int))) fun (x129 : Bool) =>
  if x129 = true then
  Join (fun (v130 : Int) => Let (bShr IntKind.i64 s128.snd (1 : Int)) fun (x131 : Int) => rec127 (v130, x131))
  fun (j132 : Int → Option Int) =>
  Let (bOr IntKind.i64 s128.fst s128.snd) fun (x133 : Int) =>
  Let (IntKind.u64.wrap x133) fun (x134 : Int) =>
  Let (IntKind.u64.wrap x133) fun (x135 : Int) =>
  Let (IntKind.u64.wrap (x134 * x135)) fun (x136 : Int) =>
  Let (IntKind.u64.wrap n0) fun (x137 : Int) =>
  Let (decide (x136 ≤ x137)) fun (x138 : Bool) => if x138 = true then j132 x133 else j132 s128.fst
  else some s128.fst)
  fuel ((0 : Int), (2147483648 : Int))

noncomputable def vec2_Length (v0 : Vec) : Option Int :=
  Rx.Bind (vec2_DistanceSquared { X := (0 : Int), Y := (0 : Int) : Vec } v0) fun (r139 : Int) =>
  Rx.Bind (fixed_Isqrt r139) fun (r140 : Int) => some r140

noncomputable def polygon_inReach (v0 : Vec) : Option Bool :=
  Let (decide (v0.X ≥ (-1048576 : Int))) fun (x141 : Bool) =>
  Let (decide (v0.X ≤ (1048576 : Int))) fun (x142 : Bool) =>
  Let (bif x141 then x142 else false) fun (x143 : Bool) =>
  Let (decide (v0.Y ≥ (-1048576 : Int))) fun (x144 : Bool) =>
  Let (bif x143 then x144 else false) fun (x145 : Bool) =>
  Let (decide (v0.Y ≤ (1048576 : Int))) fun (x146 : Bool) =>
  Let (bif x145 then x146 else false) fun (x147 : Bool) => some x147

noncomputable def polygon_allInReach (points0 : (List Vec)) : Option Bool :=
  Let (↑points0.length : Int) fun (x148 : Int) =>
  LOOP
  (fun (rec149 : Int → Option Bool) (s150 : Int) =>
  Let (decide (s150 < x148)) fun (x151 : Bool) =>
  if x151 = true then
  Chk ((0 : Int) ≤ s150 ∧ s150 < (↑points0.length : Int))
  (Let (ix points0 s150) fun (x152 : Vec) =>
  Rx.Bind (polygon_inReach x152) fun (r153 : Bool) =>
  Let (!r153) fun (x154 : Bool) =>
  if x154 = true then some false else Let (IntKind.i64.wrap (s150 + (1 : Int))) fun (x155 : Int) => rec149 x155)
  else some true)
  fuel (0 : Int)

noncomputable def vec2_Orientation (a0 : Vec) (b1 : Vec) (c2 : Vec) : Option Int :=
  Rx.Bind (vec2_saturate a0) fun (r156 : Vec) =>
  Rx.Bind (vec2_saturate b1) fun (r157 : Vec) =>
  Rx.Bind (vec2_saturate c2) fun (r158 : Vec) =>
  Let (IntKind.i64.wrap (r157.X - r156.X)) fun (x159 : Int) =>
  Let (IntKind.i64.wrap (r158.Y - r156.Y)) fun (x160 : Int) =>
  Let (IntKind.i64.wrap (x159 * x160)) fun (x161 : Int) =>
  Let (IntKind.i64.wrap (r157.Y - r156.Y)) fun (x162 : Int) =>
  Let (IntKind.i64.wrap (r158.X - r156.X)) fun (x163 : Int) =>
  Let (IntKind.i64.wrap (x162 * x163)) fun (x164 : Int) =>
  Let (IntKind.i64.wrap (x161 - x164)) fun (x165 : Int) =>
  Let (max (-1 : Int) x165) fun (x166 : Int) => Let (min (1 : Int) x166) fun (x167 : Int) => some x167

noncomputable def polygon_IsConvex (vertices0 : (List Vec)) : Option Bool :=
  Let (↑vertices0.length : Int) fun (x168 : Int) =>
  Let (decide (x168 < (3 : Int))) fun (x169 : Bool) =>
  Let (decide (x168 > (8 : Int))) fun (x170 : Bool) =>
  Let (bif x169 then true else x170) fun (x171 : Bool) =>
  Rx.Bind (if (x171 == false) = true then polygon_allInReach vertices0 else some default) fun (r172 : Bool) =>
  Let (!r172) fun (x173 : Bool) =>
  Let (bif x171 then true else x173) fun (x174 : Bool) =>
  if x174 = true then some false
  else
  Let (↑vertices0.length : Int) fun (x175 : Int) =>
  LOOP
  (fun (rec176 : Int → Option Bool) (s177 : Int) =>
  Let (decide (s177 < x175)) fun (x178 : Bool) =>
  if x178 = true then
  Chk ((0 : Int) ≤ s177 ∧ s177 < (↑vertices0.length : Int))
  (Let (ix vertices0 s177) fun (x179 : Vec) =>
  Let (IntKind.i64.wrap (s177 + (1 : Int))) fun (x180 : Int) =>
  Chk (x168 ≠ (0 : Int))
  (Let (x180.tmod x168) fun (x181 : Int) =>
  Let (↑vertices0.length : Int) fun (x182 : Int) =>
  LOOP
  (fun (rec183 : Int → Option Bool) (s184 : Int) =>
  Let (decide (s184 < x182)) fun (x185 : Bool) =>
  if x185 = true then
  Chk ((0 : Int) ≤ s184 ∧ s184 < (↑vertices0.length : Int))
  (Let (ix vertices0 s184) fun (x186 : Vec) =>
  Let (s184 != s177) fun (x187 : Bool) =>
  Let (s184 != x181) fun (x188 : Bool) =>
  Let (bif x187 then x188 else false) fun (x189 : Bool) =>
  Chk ((x189 == true) = true → (0 : Int) ≤ x181 ∧ x181 < (↑vertices0.length : Int))
  (Let (ix vertices0 x181) fun (x190 : Vec) =>
  Rx.Bind (if (x189 == true) = true then vec2_Orientation x179 x190 x186 else some default) fun (r191 : Int) =>
  Let (r191 != (1 : Int)) fun (x192 : Bool) =>
  Let (bif x189 then x192 else false) fun (x193 : Bool) =>
  if x193 = true then some false else Let (IntKind.i64.wrap (s184 + (1 : Int))) fun (x194 : Int) => rec183 x194))
  else Let (IntKind.i64.wrap (s177 + (1 : Int))) fun (x195 : Int) => rec176 x195)
  fuel (0 : Int)))
  else some true)
  fuel (0 : Int)

noncomputable def polygon_ShortestEdge (vertices0 : (List Vec)) : Option Int :=
  Rx.Bind (polygon_IsConvex vertices0) fun (r196 : Bool) =>
  Let (!r196) fun (x197 : Bool) =>
  if x197 = true then some (0 : Int)
  else
  Let (↑vertices0.length : Int) fun (x198 : Int) =>
  LOOP
  (fun (rec199 : Int × Int → Option Int) (s200 : Int × Int) =>
  Let (decide (s200.snd < x198)) fun (x201 : Bool) =>
  if x201 = true then
  Chk ((0 : Int) ≤ s200.snd ∧ s200.snd < (↑vertices0.length : Int))
  (Let (ix vertices0 s200.snd) fun (x202 : Vec) =>
  Let (IntKind.i64.wrap (s200.snd + (1 : Int))) fun (x203 : Int) =>
  Let (↑vertices0.length : Int) fun (x204 : Int) =>
  Chk (x204 ≠ (0 : Int))
  (Let (x203.tmod x204) fun (x205 : Int) =>
  Chk ((0 : Int) ≤ x205 ∧ x205 < (↑vertices0.length : Int))
  (Let (ix vertices0 x205) fun (x206 : Vec) =>
  Rx.Bind (vec2_Sub x206 x202) fun (r207 : Vec) =>
  Rx.Bind (vec2_Length r207) fun (r208 : Int) =>
  Let (min s200.fst r208) fun (x209 : Int) =>
  Let (IntKind.i64.wrap (s200.snd + (1 : Int))) fun (x210 : Int) => rec199 (x209, x210))))
  else some s200.fst)
  fuel ((536870911 : Int), (0 : Int))

noncomputable def fixed_RoundDiv (n0 : Int) (d1 : Int) : Option Int :=
  Let (decide (d1 < (1 : Int))) fun (x211 : Bool) =>
  Let (decide (d1 > (4611686018427387904 : Int))) fun (x212 : Bool) =>
  Let (bif x211 then true else x212) fun (x213 : Bool) =>
  Let (decide (n0 < (-4611686018427387904 : Int))) fun (x214 : Bool) =>
  Let (bif x213 then true else x214) fun (x215 : Bool) =>
  Let (decide (n0 > (4611686018427387904 : Int))) fun (x216 : Bool) =>
  Let (bif x215 then true else x216) fun (x217 : Bool) =>
  if x217 = true then some (0 : Int)
  else
  Chk (d1 ≠ (0 : Int))
  (Let (IntKind.i64.wrap (n0.tdiv d1)) fun (x218 : Int) =>
  Chk (d1 ≠ (0 : Int))
  (Let (n0.tmod d1) fun (x219 : Int) =>
  Join (fun (v220 : Int) => some v220) fun (j221 : Int → Option Int) =>
  Let (IntKind.i64.wrap (d1 - x219)) fun (x222 : Int) =>
  Let (decide (x219 ≥ x222)) fun (x223 : Bool) =>
  if x223 = true then Let (IntKind.i64.wrap (x218 + (1 : Int))) fun (x224 : Int) => j221 x224
  else
  Let (IntKind.i64.wrap ((0 : Int) - x219)) fun (x225 : Int) =>
  Let (IntKind.i64.wrap (d1 + x219)) fun (x226 : Int) =>
  Let (decide (x225 ≥ x226)) fun (x227 : Bool) =>
  if x227 = true then Let (IntKind.i64.wrap (x218 - (1 : Int))) fun (x228 : Int) => j221 x228 else j221 x218))

noncomputable def polygon_fan (vertices0 : (List Vec)) : Option ((List polygon_triangle) × Int) :=
  Chk ((0 : Int) ≤ (0 : Int) ∧ (0 : Int) < (↑vertices0.length : Int))
  (Let (ix vertices0 (0 : Int)) fun (x229 : Vec) =>
  LOOP
  (fun (rec230 : List polygon_triangle × Int × Int → Option (List polygon_triangle × Int))
  (s231 : List polygon_triangle × Int × Int) =>
  Let (IntKind.i64.wrap (s231.snd.snd + (1 : Int))) fun (x232 : Int) =>
  Let (↑vertices0.length : Int) fun (x233 : Int) =>
  Let (decide (x232 < x233)) fun (x234 : Bool) =>
  if x234 = true then
  Chk ((0 : Int) ≤ s231.snd.snd ∧ s231.snd.snd < (↑vertices0.length : Int))
  (Let (ix vertices0 s231.snd.snd) fun (x235 : Vec) =>
  Let (IntKind.i64.wrap (x235.X - x229.X)) fun (x236 : Int) =>
  Chk ((0 : Int) ≤ s231.snd.snd ∧ s231.snd.snd < (↑vertices0.length : Int))
  (Let (ix vertices0 s231.snd.snd) fun (x237 : Vec) =>
  Let (IntKind.i64.wrap (x237.Y - x229.Y)) fun (x238 : Int) =>
  Let (IntKind.i64.wrap (s231.snd.snd + (1 : Int))) fun (x239 : Int) =>
  Chk ((0 : Int) ≤ x239 ∧ x239 < (↑vertices0.length : Int))
  (Let (ix vertices0 x239) fun (x240 : Vec) =>
  Let (IntKind.i64.wrap (x240.X - x229.X)) fun (x241 : Int) =>
  Let (IntKind.i64.wrap (s231.snd.snd + (1 : Int))) fun (x242 : Int) =>
  Chk ((0 : Int) ≤ x242 ∧ x242 < (↑vertices0.length : Int))
  (Let (ix vertices0 x242) fun (x243 : Vec) =>
  Let (IntKind.i64.wrap (x243.Y - x229.Y)) fun (x244 : Int) =>
  Let (IntKind.i64.wrap (x236 * x244)) fun (x245 : Int) =>
  Let (IntKind.i64.wrap (x238 * x241)) fun (x246 : Int) =>
  Let (IntKind.i64.wrap (x245 - x246)) fun (x247 : Int) =>
  Rx.Bind (fixed_RoundDiv x247 (65536 : Int)) fun (r248 : Int) =>
  Chk
  ((List.length s231.fst +
  [{ e := { X := x236, Y := x238 : Vec }, f := { X := x241, Y := x244 : Vec }, cross := r248 : polygon_triangle }].length) *
  (40 : Nat) ≤
  (140737488355328 : Nat))
  (Let
  (s231.fst ++
  [{ e := { X := x236, Y := x238 : Vec }, f := { X := x241, Y := x244 : Vec }, cross := r248 : polygon_triangle }])
  fun (x249 : List polygon_triangle) =>
  Let (IntKind.i64.wrap (s231.snd.fst + r248)) fun (x250 : Int) =>
  Let (IntKind.i64.wrap (s231.snd.snd + (1 : Int))) fun (x251 : Int) => rec230 (x249, x250, x251))))))
  else some (s231.fst, s231.snd.fst))
  fuel ([], (0 : Int), (1 : Int)))

noncomputable def polygon_Area (vertices0 : (List Vec)) : Option Int :=
  Rx.Bind (polygon_IsConvex vertices0) fun (r252 : Bool) =>
  Let (!r252) fun (x253 : Bool) =>
  if x253 = true then some (0 : Int)
  else
  Rx.Bind (polygon_fan vertices0) fun (r254 : List polygon_triangle × Int) =>
  Rx.Bind (fixed_RoundDiv r254.snd (2 : Int)) fun (r255 : Int) => some r255

noncomputable def shape_Validate (s0 : Shape) : Option Int :=
  Let (decide (s0.Kind < (1 : Int))) fun (x256 : Bool) =>
  Let (decide (s0.Kind > (3 : Int))) fun (x257 : Bool) =>
  Let (bif x256 then true else x257) fun (x258 : Bool) =>
  if x258 = true then some (10 : Int)
  else
  Rx.Bind (shape_validCount s0) fun (r259 : Bool) =>
  Let (!r259) fun (x260 : Bool) =>
  if x260 = true then some (11 : Int)
  else
  Rx.Bind (slices_ContainsFunc_208 s0.Vertices fun (a : Tup tb [Ix.tVec]) => shape_Validate_1 a) fun (r261 : Bool) =>
  if r261 = true then some (6 : Int)
  else
  Join
  (fun (v262 : Bool) =>
  if v262 = true then some (6 : Int)
  else
  Let (s0.Kind == (2 : Int)) fun (x263 : Bool) =>
  Chk ((x263 == true) = true → (0 : Int) ≤ (1 : Int) ∧ (1 : Int) < (↑s0.Vertices.length : Int))
  (Let (ix s0.Vertices (1 : Int)) fun (x264 : Vec) =>
  Chk ((x263 == true) = true → (0 : Int) ≤ (0 : Int) ∧ (0 : Int) < (↑s0.Vertices.length : Int))
  (Let (ix s0.Vertices (0 : Int)) fun (x265 : Vec) =>
  Rx.Bind (if (x263 == true) = true then vec2_Sub x264 x265 else some { X := default, Y := default : Vec })
  fun (r266 : Vec) =>
  Rx.Bind (if (x263 == true) = true then vec2_Length r266 else some default) fun (r267 : Int) =>
  Let (decide (r267 < (4096 : Int))) fun (x268 : Bool) =>
  Let (bif x263 then x268 else false) fun (x269 : Bool) =>
  if x269 = true then some (12 : Int)
  else
  Let (s0.Kind == (3 : Int)) fun (x270 : Bool) =>
  Rx.Bind (if (x270 == true) = true then polygon_IsConvex s0.Vertices else some default) fun (r271 : Bool) =>
  Let (!r271) fun (x272 : Bool) =>
  Rx.Bind (if (x270 == true && x272 == false) = true then polygon_ShortestEdge s0.Vertices else some default)
  fun (r273 : Int) =>
  Let (decide (r273 < (4096 : Int))) fun (x274 : Bool) =>
  Let (bif x272 then true else x274) fun (x275 : Bool) =>
  Rx.Bind (if (x270 == true && x275 == false) = true then polygon_Area s0.Vertices else some default) fun (r276 : Int) =>
  Let (decide (r276 < (256 : Int))) fun (x277 : Bool) =>
  Let (bif x275 then true else x277) fun (x278 : Bool) =>
  Let (bif x270 then x278 else false) fun (x279 : Bool) => if x279 = true then some (12 : Int) else some (0 : Int))))
  fun (j280 : Bool → Option Int) =>
  Let (s0.Kind == (3 : Int)) fun (x281 : Bool) =>
  Let (s0.Radius != (0 : Int)) fun (x282 : Bool) =>
  Let (bif x281 then x282 else false) fun (x283 : Bool) =>
  if x283 = true then j280 x283
  else
  Let (s0.Kind != (3 : Int)) fun (x284 : Bool) =>
  Let (decide (s0.Radius < (2048 : Int))) fun (x285 : Bool) =>
  Let (decide (s0.Radius > (524288 : Int))) fun (x286 : Bool) =>
  Let (bif x285 then true else x286) fun (x287 : Bool) =>
  Let (bif x284 then x287 else false) fun (x288 : Bool) => j280 x288

noncomputable def body_ValidateFixture (f0 : Fixture) : Option Int :=
  Rx.Bind (shape_Validate f0.Shape) fun (r289 : Int) =>
  Let (r289 != (0 : Int)) fun (x290 : Bool) =>
  if x290 = true then some r289
  else
  Rx.Bind (body_within f0.Density (0 : Int) (262144 : Int)) fun (r291 : Bool) =>
  Rx.Bind (if (r291 == true) = true then body_within f0.Friction (0 : Int) (131072 : Int) else some default)
  fun (r292 : Bool) =>
  Let (bif r291 then r292 else false) fun (x293 : Bool) =>
  Rx.Bind (if (x293 == true) = true then body_within f0.Restitution (0 : Int) (65536 : Int) else some default)
  fun (r294 : Bool) =>
  Let (bif x293 then r294 else false) fun (x295 : Bool) =>
  Rx.Bind (body_within f0.Category (0 : Int) (65535 : Int)) fun (r296 : Bool) =>
  Rx.Bind (if (r296 == true) = true then body_within f0.Mask (0 : Int) (65535 : Int) else some default)
  fun (r297 : Bool) =>
  Let (bif r296 then r297 else false) fun (x298 : Bool) =>
  Rx.Bind (if (x298 == true) = true then body_within f0.Group (-32 : Int) (32 : Int) else some default)
  fun (r299 : Bool) =>
  Let (bif x298 then r299 else false) fun (x300 : Bool) =>
  Let (!x295) fun (x301 : Bool) =>
  Let (!x300) fun (x302 : Bool) =>
  Let (bif x301 then true else x302) fun (x303 : Bool) => if x303 = true then some (6 : Int) else some (0 : Int)

noncomputable def body_moving (b0 : Body) : Option Bool :=
  Let (!(decide (b0.Velocity.X = (0 : Int)) && decide (b0.Velocity.Y = (0 : Int)))) fun (x304 : Bool) =>
  Let (b0.AngularVelocity != (0 : Int)) fun (x305 : Bool) =>
  Let (bif x304 then true else x305) fun (x306 : Bool) => some x306

noncomputable def body_consistent (b0 : Body) : Option Bool :=
  Let (!(decide (b0.Force.X = (0 : Int)) && decide (b0.Force.Y = (0 : Int)))) fun (x307 : Bool) =>
  Let (b0.Torque != (0 : Int)) fun (x308 : Bool) =>
  Let (bif x307 then true else x308) fun (x309 : Bool) =>
  Let (b0.Kind == (1 : Int)) fun (x310 : Bool) =>
  Rx.Bind (if (x310 == true) = true then body_moving b0 else some default) fun (r311 : Bool) =>
  Let (bif r311 then true else x309) fun (x312 : Bool) =>
  Let (bif x310 then x312 else false) fun (x313 : Bool) =>
  if x313 = true then some false
  else
  Let (b0.Kind != (3 : Int)) fun (x314 : Bool) =>
  Let (bif b0.Asleep then true else b0.Bullet) fun (x315 : Bool) =>
  Let (bif x314 then x315 else false) fun (x316 : Bool) =>
  if x316 = true then some false
  else
  Let (!b0.Asleep) fun (x317 : Bool) =>
  Rx.Bind (if (x317 == false) = true then body_moving b0 else some default) fun (r318 : Bool) =>
  Let (!r318) fun (x319 : Bool) => Let (bif x317 then true else x319) fun (x320 : Bool) => some x320

noncomputable def body_Validate (b0 : Body) : Option Int :=
  Let (b0.Kind != (1 : Int)) fun (x321 : Bool) =>
  Let (b0.Kind != (2 : Int)) fun (x322 : Bool) =>
  Let (bif x321 then x322 else false) fun (x323 : Bool) =>
  Let (b0.Kind != (3 : Int)) fun (x324 : Bool) =>
  Let (bif x323 then x324 else false) fun (x325 : Bool) =>
  if x325 = true then some (10 : Int)
  else
  Rx.Bind (body_inRange b0) fun (r326 : Bool) =>
  Let (!r326) fun (x327 : Bool) =>
  if x327 = true then some (6 : Int)
  else
  Let (↑b0.Fixtures.length : Int) fun (x328 : Int) =>
  Let (decide (x328 > (4 : Int))) fun (x329 : Bool) =>
  if x329 = true then some (11 : Int)
  else
  Let (↑b0.Fixtures.length : Int) fun (x330 : Int) =>
  LOOP
  (fun (rec331 : Int → Option Int) (s332 : Int) =>
  Let (decide (s332 < x330)) fun (x333 : Bool) =>
  if x333 = true then
  Chk ((0 : Int) ≤ s332 ∧ s332 < (↑b0.Fixtures.length : Int))
  (Let (ix b0.Fixtures s332) fun (x334 : Fixture) =>
  Rx.Bind (body_ValidateFixture x334) fun (r335 : Int) =>
  Let (r335 != (0 : Int)) fun (x336 : Bool) =>
  if x336 = true then some (13 : Int) else Let (IntKind.i64.wrap (s332 + (1 : Int))) fun (x337 : Int) => rec331 x337)
  else
  Rx.Bind (body_consistent b0) fun (r338 : Bool) =>
  Let (!r338) fun (x339 : Bool) => if x339 = true then some (14 : Int) else some (0 : Int))
  fuel (0 : Int)

noncomputable def world_validBodies (w0 : World_) : Option Bool :=
  Let (↑w0.Bodies.length : Int) fun (x340 : Int) =>
  LOOP
  (fun (rec341 : Int × Int → Option Bool) (s342 : Int × Int) =>
  Let (decide (s342.snd < x340)) fun (x343 : Bool) =>
  if x343 = true then
  Chk ((0 : Int) ≤ s342.snd ∧ s342.snd < (↑w0.Bodies.length : Int))
  (Let (ix w0.Bodies s342.snd) fun (x344 : Body) =>
  Rx.Bind (body_Validate x344) fun (r345 : Int) =>
  Let (r345 != (0 : Int)) fun (x346 : Bool) =>
  Let (decide (x344.ID ≥ w0.NextID)) fun (x347 : Bool) =>
  Let (bif x346 then true else x347) fun (x348 : Bool) =>
  Let (decide (x344.ID ≤ s342.fst)) fun (x349 : Bool) =>
  Let (bif x348 then true else x349) fun (x350 : Bool) =>
  if x350 = true then some false
  else Let (IntKind.i64.wrap (s342.snd + (1 : Int))) fun (x351 : Int) => rec341 (x344.ID, x351))
  else some true)
  fuel ((0 : Int), (0 : Int))

noncomputable def joint_limitRange (k0 : Int) : Option (Int × Int) :=
  Let (k0 == (1 : Int)) fun (x352 : Bool) =>
  if x352 = true then some ((0 : Int), (268435456 : Int))
  else
  Let (k0 == (2 : Int)) fun (x353 : Bool) =>
  if x353 = true then some ((-205888 : Int), (205888 : Int)) else some ((-268435456 : Int), (268435456 : Int))

noncomputable def joint_inRange (n0 : Int) (low1 : Int) (high2 : Int) : Option Bool :=
  Let (decide (n0 ≥ low1)) fun (x354 : Bool) =>
  Let (decide (n0 ≤ high2)) fun (x355 : Bool) => Let (bif x354 then x355 else false) fun (x356 : Bool) => some x356

noncomputable def joint_pointInRange (v0 : Vec) (limit1 : Int) : Option Bool :=
  Let (IntKind.i64.wrap ((0 : Int) - limit1)) fun (x357 : Int) =>
  Rx.Bind (joint_inRange v0.X x357 limit1) fun (r358 : Bool) =>
  Let (IntKind.i64.wrap ((0 : Int) - limit1)) fun (x359 : Int) =>
  Rx.Bind (if (r358 == true) = true then joint_inRange v0.Y x359 limit1 else some default) fun (r360 : Bool) =>
  Let (bif r358 then r360 else false) fun (x361 : Bool) => some x361

noncomputable def joint_numbersInRange (j0 : Joint) : Option Bool :=
  Join
  (fun (v362 : Int) =>
  Rx.Bind (joint_limitRange j0.Kind) fun (r363 : Int × Int) =>
  LOOP
  (fun (rec364 : Int → Option Bool) (s365 : Int) =>
  Let (decide (s365 < (4 : Int))) fun (x366 : Bool) =>
  if x366 = true then
  Chk ((0 : Int) ≤ s365 ∧ s365 < (↑(4 : Nat) : Int))
  (Let (ix [j0.Impulses.fst, j0.Impulses.snd.fst, j0.Impulses.snd.snd.fst, j0.Impulses.snd.snd.snd] s365)
  fun (x367 : Int) =>
  Rx.Bind (joint_inRange x367 (-536870911 : Int) (536870911 : Int)) fun (r368 : Bool) =>
  Let (!r368) fun (x369 : Bool) =>
  if x369 = true then some false else Let (IntKind.i64.wrap (s365 + (1 : Int))) fun (x370 : Int) => rec364 x370)
  else
  Rx.Bind (joint_inRange j0.ID (1 : Int) (1099511627776 : Int)) fun (r371 : Bool) =>
  Rx.Bind (if (r371 == true) = true then joint_pointInRange j0.AnchorA v362 else some default) fun (r372 : Bool) =>
  Let (bif r371 then r372 else false) fun (x373 : Bool) =>
  Rx.Bind (if (x373 == true) = true then joint_pointInRange j0.AnchorB (1048576 : Int) else some default)
  fun (r374 : Bool) =>
  Let (bif x373 then r374 else false) fun (x375 : Bool) =>
  Rx.Bind (if (x375 == true) = true then joint_inRange j0.ReferenceAngle (-205888 : Int) (205887 : Int) else some default)
  fun (r376 : Bool) =>
  Let (bif x375 then r376 else false) fun (x377 : Bool) =>
  Rx.Bind (if (x377 == true) = true then joint_inRange j0.Lower r363.fst r363.snd else some default) fun (r378 : Bool) =>
  Let (bif x377 then r378 else false) fun (x379 : Bool) =>
  Rx.Bind (if (x379 == true) = true then joint_inRange j0.Upper r363.fst r363.snd else some default) fun (r380 : Bool) =>
  Let (bif x379 then r380 else false) fun (x381 : Bool) =>
  Let (decide (j0.Lower ≤ j0.Upper)) fun (x382 : Bool) =>
  Let (bif x381 then x382 else false) fun (x383 : Bool) =>
  Rx.Bind (if (x383 == true) = true then joint_inRange j0.MotorSpeed (-16777216 : Int) (16777216 : Int) else some default)
  fun (r384 : Bool) =>
  Let (bif x383 then r384 else false) fun (x385 : Bool) =>
  Rx.Bind (if (x385 == true) = true then joint_inRange j0.MaxForce (0 : Int) (536870911 : Int) else some default)
  fun (r386 : Bool) =>
  Let (bif x385 then r386 else false) fun (x387 : Bool) =>
  Rx.Bind (if (x387 == true) = true then joint_inRange j0.Softness (0 : Int) (536870911 : Int) else some default)
  fun (r388 : Bool) =>
  Let (bif x387 then r388 else false) fun (x389 : Bool) =>
  Rx.Bind (if (x389 == true) = true then joint_inRange j0.BreakForce (0 : Int) (536870911 : Int) else some default)
  fun (r390 : Bool) => Let (bif x389 then r390 else false) fun (x391 : Bool) => some x391)
  fuel (0 : Int))
  fun (j392 : Int → Option Bool) =>
  Let (j0.Kind == (5 : Int)) fun (x393 : Bool) => if x393 = true then j392 (268435456 : Int) else j392 (1048576 : Int)

noncomputable def joint_validBodies (j0 : Joint) : Option Bool :=
  Let (j0.Kind == (5 : Int)) fun (x394 : Bool) =>
  if x394 = true then
  Let (j0.BodyA == (0 : Int)) fun (x395 : Bool) =>
  Rx.Bind (if (x395 == true) = true then joint_inRange j0.BodyB (1 : Int) (1099511627776 : Int) else some default)
  fun (r396 : Bool) => Let (bif x395 then r396 else false) fun (x397 : Bool) => some x397
  else
  Rx.Bind (joint_inRange j0.BodyA (1 : Int) (1099511627776 : Int)) fun (r398 : Bool) =>
  Rx.Bind (if (r398 == true) = true then joint_inRange j0.BodyB (1 : Int) (1099511627776 : Int) else some default)
  fun (r399 : Bool) =>
  Let (bif r398 then r399 else false) fun (x400 : Bool) =>
  Let (j0.BodyA != j0.BodyB) fun (x401 : Bool) => Let (bif x400 then x401 else false) fun (x402 : Bool) => some x402

noncomputable def joint_inconsistent (j0 : Joint) : Option Bool :=
  Let (decide (j0.Axis.X = (0 : Int)) && decide (j0.Axis.Y = (0 : Int))) fun (x403 : Bool) =>
  Join
  (fun (v404 : PUnit) =>
  Let (!x403) fun (x405 : Bool) =>
  Let (bif x405 then true else j0.EnableMotor) fun (x406 : Bool) =>
  Let (bif x406 then true else j0.EnableLimit) fun (x407 : Bool) => some x407)
  fun (j408 : PUnit → Option Bool) =>
  Let (j0.Kind == (3 : Int)) fun (x409 : Bool) =>
  if x409 = true then
  Rx.Bind (vec2_Length j0.Axis) fun (r410 : Int) =>
  Rx.Bind (joint_inRange r410 (65520 : Int) (65552 : Int)) fun (r411 : Bool) => Let (!r411) fun (x412 : Bool) => some x412
  else
  Let (j0.Kind == (1 : Int)) fun (x413 : Bool) =>
  if x413 = true then
  Let (!x403) fun (x414 : Bool) =>
  Let (bif x414 then true else j0.EnableMotor) fun (x415 : Bool) =>
  Let (!j0.EnableLimit) fun (x416 : Bool) => Let (bif x415 then true else x416) fun (x417 : Bool) => some x417
  else
  Let (j0.Kind == (4 : Int)) fun (x418 : Bool) =>
  if x418 = true then j408 ()
  else
  Let (j0.Kind == (5 : Int)) fun (x419 : Bool) =>
  if x419 = true then j408 () else Let (!x403) fun (x420 : Bool) => some x420

noncomputable def joint_Validate (j0 : Joint) : Option Int :=
  Let (decide (j0.Kind < (1 : Int))) fun (x421 : Bool) =>
  Let (decide (j0.Kind > (5 : Int))) fun (x422 : Bool) =>
  Let (bif x421 then true else x422) fun (x423 : Bool) =>
  if x423 = true then some (10 : Int)
  else
  Rx.Bind (joint_numbersInRange j0) fun (r424 : Bool) =>
  Let (!r424) fun (x425 : Bool) =>
  if x425 = true then some (6 : Int)
  else
  Rx.Bind (joint_validBodies j0) fun (r426 : Bool) =>
  Let (!r426) fun (x427 : Bool) =>
  if x427 = true then some (14 : Int)
  else Rx.Bind (joint_inconsistent j0) fun (r428 : Bool) => if r428 = true then some (15 : Int) else some (0 : Int)

noncomputable def world_FindBody_1 (b0 : Body) (p1 : Int) : Option Bool :=
  Let (b0.ID == p1) fun (x429 : Bool) => some x429

noncomputable def slices_IndexFunc (s0 : (List Body)) (f1 : (Body → Option Bool)) : Option Int :=
  Let (↑s0.length : Int) fun (x430 : Int) =>
  LOOP
  (fun (rec431 : Int → Option Int) (s432 : Int) =>
  Let (decide (s432 < x430)) fun (x433 : Bool) =>
  if x433 = true then
  Chk ((0 : Int) ≤ s432 ∧ s432 < (↑s0.length : Int))
  (Let (ix s0 s432) fun (x434 : Body) =>
  Rx.Bind (f1 x434) fun (r435 : Bool) =>
  if r435 = true then some s432 else Let (IntKind.i64.wrap (s432 + (1 : Int))) fun (x436 : Int) => rec431 x436)
  else some (-1 : Int))
  fuel (0 : Int)

noncomputable def world_FindBody (w0 : World_) (id1 : Int) : Option Int :=
  Rx.Bind (slices_IndexFunc w0.Bodies fun (a : Tup tb [Ix.tBody]) => world_FindBody_1 a id1) fun (r437 : Int) => some r437

noncomputable def world_bodiesExist (w0 : World_) (j1 : Joint) : Option Bool :=
  Rx.Bind (world_FindBody w0 j1.BodyB) fun (r438 : Int) =>
  Let (decide (r438 ≥ (0 : Int))) fun (x439 : Bool) =>
  Let (j1.Kind == (5 : Int)) fun (x440 : Bool) =>
  Rx.Bind (if (x439 == true && x440 == false) = true then world_FindBody w0 j1.BodyA else some default)
  fun (r441 : Int) =>
  Let (decide (r441 ≥ (0 : Int))) fun (x442 : Bool) =>
  Let (bif x440 then true else x442) fun (x443 : Bool) =>
  Let (bif x439 then x443 else false) fun (x444 : Bool) => some x444

noncomputable def world_validJoints (w0 : World_) : Option Bool :=
  Let (↑w0.Joints.length : Int) fun (x445 : Int) =>
  LOOP
  (fun (rec446 : Int × Int → Option Bool) (s447 : Int × Int) =>
  Let (decide (s447.snd < x445)) fun (x448 : Bool) =>
  if x448 = true then
  Chk ((0 : Int) ≤ s447.snd ∧ s447.snd < (↑w0.Joints.length : Int))
  (Let (ix w0.Joints s447.snd) fun (x449 : Joint) =>
  Rx.Bind (joint_Validate x449) fun (r450 : Int) =>
  Let (r450 != (0 : Int)) fun (x451 : Bool) =>
  Let (decide (x449.ID ≥ w0.NextID)) fun (x452 : Bool) =>
  Let (bif x451 then true else x452) fun (x453 : Bool) =>
  Let (decide (x449.ID ≤ s447.fst)) fun (x454 : Bool) =>
  Let (bif x453 then true else x454) fun (x455 : Bool) =>
  Rx.Bind (if (x455 == false) = true then world_bodiesExist w0 x449 else some default) fun (r456 : Bool) =>
  Let (!r456) fun (x457 : Bool) =>
  Let (bif x455 then true else x457) fun (x458 : Bool) =>
  Rx.Bind (if (x458 == false) = true then world_FindBody w0 x449.ID else some default) fun (r459 : Int) =>
  Let (decide (r459 ≥ (0 : Int))) fun (x460 : Bool) =>
  Let (bif x458 then true else x460) fun (x461 : Bool) =>
  if x461 = true then some false
  else Let (IntKind.i64.wrap (s447.snd + (1 : Int))) fun (x462 : Int) => rec446 (x449.ID, x462))
  else some true)
  fuel ((0 : Int), (0 : Int))

noncomputable def slices_IndexFunc_236 (s0 : (List Int)) (f1 : (Int → Option Bool)) : Option Int :=
  Let (↑s0.length : Int) fun (x463 : Int) =>
  LOOP
  (fun (rec464 : Int → Option Int) (s465 : Int) =>
  Let (decide (s465 < x463)) fun (x466 : Bool) =>
  if x466 = true then
  Chk ((0 : Int) ≤ s465 ∧ s465 < (↑s0.length : Int))
  (Let (ix s0 s465) fun (x467 : Int) =>
  Rx.Bind (f1 x467) fun (r468 : Bool) =>
  if r468 = true then some s465 else Let (IntKind.i64.wrap (s465 + (1 : Int))) fun (x469 : Int) => rec464 x469)
  else some (-1 : Int))
  fuel (0 : Int)

noncomputable def slices_ContainsFunc_203 (s0 : (List Int)) (f1 : (Int → Option Bool)) : Option Bool :=
  Rx.Bind (slices_IndexFunc_236 s0 f1) fun (r470 : Int) => Let (decide (r470 ≥ (0 : Int))) fun (x471 : Bool) => some x471

noncomputable def world_saturated_1 (n0 : Int) : Option Bool :=
  Rx.Bind (world_in n0 (-536870911 : Int) (536870911 : Int)) fun (r472 : Bool) =>
  Let (!r472) fun (x473 : Bool) => some x473

noncomputable def world_saturated (values0 : (List Int)) : Option Bool :=
  Rx.Bind (slices_ContainsFunc_203 values0 fun (a : Tup tb [Ix.tint]) => world_saturated_1 a) fun (r474 : Bool) =>
  Let (!r474) fun (x475 : Bool) => some x475

noncomputable def slices_IndexFunc_205 (s0 : (List ContactPoint)) (f1 : (ContactPoint → Option Bool)) : Option Int :=
  Let (↑s0.length : Int) fun (x476 : Int) =>
  LOOP
  (fun (rec477 : Int → Option Int) (s478 : Int) =>
  Let (decide (s478 < x476)) fun (x479 : Bool) =>
  if x479 = true then
  Chk ((0 : Int) ≤ s478 ∧ s478 < (↑s0.length : Int))
  (Let (ix s0 s478) fun (x480 : ContactPoint) =>
  Rx.Bind (f1 x480) fun (r481 : Bool) =>
  if r481 = true then some s478 else Let (IntKind.i64.wrap (s478 + (1 : Int))) fun (x482 : Int) => rec477 x482)
  else some (-1 : Int))
  fuel (0 : Int)

noncomputable def slices_ContainsFunc_161 (s0 : (List ContactPoint)) (f1 : (ContactPoint → Option Bool)) : Option Bool :=
  Rx.Bind (slices_IndexFunc_205 s0 f1) fun (r483 : Int) => Let (decide (r483 ≥ (0 : Int))) fun (x484 : Bool) => some x484

noncomputable def world_validManifold_1 (p0 : ContactPoint) : Option Bool :=
  Let (decide (p0.NormalImpulse < (0 : Int))) fun (x485 : Bool) =>
  Rx.Bind
  (if (x485 == false) = true then
  world_saturated [p0.Point.X, p0.Point.Y, p0.Separation, p0.ID, p0.NormalImpulse, p0.TangentImpulse]
  else some default)
  fun (r486 : Bool) => Let (!r486) fun (x487 : Bool) => Let (bif x485 then true else x487) fun (x488 : Bool) => some x488

noncomputable def world_validManifold (m0 : Manifold) : Option Bool :=
  Let (↑m0.Points.length : Int) fun (x489 : Int) =>
  Let (decide (x489 < (1 : Int))) fun (x490 : Bool) =>
  Let (decide (x489 > (2 : Int))) fun (x491 : Bool) =>
  Let (bif x490 then true else x491) fun (x492 : Bool) =>
  Let (x489 == (2 : Int)) fun (x493 : Bool) =>
  Chk ((x492 == false && x493 == true) = true → (0 : Int) ≤ (0 : Int) ∧ (0 : Int) < (↑m0.Points.length : Int))
  (Let (ix m0.Points (0 : Int)) fun (x494 : ContactPoint) =>
  Chk ((x492 == false && x493 == true) = true → (0 : Int) ≤ (1 : Int) ∧ (1 : Int) < (↑m0.Points.length : Int))
  (Let (ix m0.Points (1 : Int)) fun (x495 : ContactPoint) =>
  Let (x494.ID == x495.ID) fun (x496 : Bool) =>
  Let (bif x493 then x496 else false) fun (x497 : Bool) =>
  Let (bif x492 then true else x497) fun (x498 : Bool) =>
  Rx.Bind (if (x498 == false) = true then world_saturated [m0.Normal.X, m0.Normal.Y] else some default)
  fun (r499 : Bool) =>
  Let (!r499) fun (x500 : Bool) =>
  Let (bif x498 then true else x500) fun (x501 : Bool) =>
  if x501 = true then some false
  else
  Rx.Bind (slices_ContainsFunc_161 m0.Points fun (a : Tup tb [Ix.tContactPoint]) => world_validManifold_1 a)
  fun (r502 : Bool) => Let (!r502) fun (x503 : Bool) => some x503))

noncomputable def broadphase_valid (k0 : PairKey) : Option Bool :=
  Let (decide (k0.BodyA < k0.BodyB)) fun (x504 : Bool) =>
  Let (decide (k0.FixtureA ≥ (0 : Int))) fun (x505 : Bool) =>
  Let (bif x504 then x505 else false) fun (x506 : Bool) =>
  Let (decide (k0.FixtureA < (4 : Int))) fun (x507 : Bool) =>
  Let (bif x506 then x507 else false) fun (x508 : Bool) =>
  Let (decide (k0.FixtureB ≥ (0 : Int))) fun (x509 : Bool) =>
  Let (bif x508 then x509 else false) fun (x510 : Bool) =>
  Let (decide (k0.FixtureB < (4 : Int))) fun (x511 : Bool) =>
  Let (bif x510 then x511 else false) fun (x512 : Bool) => some x512

noncomputable def cmp_isNaN (x0 : Int) : Option Bool :=
  Let (x0 != x0) fun (x513 : Bool) => some x513

noncomputable def cmp_Compare (x0 : Int) (y1 : Int) : Option Int :=
  Rx.Bind (cmp_isNaN x0) fun (r514 : Bool) =>
  Rx.Bind (cmp_isNaN y1) fun (r515 : Bool) =>
  if r514 = true then if r515 = true then some (0 : Int) else some (-1 : Int)
  else
  if r515 = true then some (1 : Int)
  else
  Let (decide (x0 < y1)) fun (x516 : Bool) =>
  if x516 = true then some (-1 : Int)
  else Let (decide (x0 > y1)) fun (x517 : Bool) => if x517 = true then some (1 : Int) else some (0 : Int)

noncomputable def cmp_Or (vals0 : (List Int)) : Option Int :=
  Let (↑vals0.length : Int) fun (x518 : Int) =>
  LOOP
  (fun (rec519 : Int → Option Int) (s520 : Int) =>
  Let (decide (s520 < x518)) fun (x521 : Bool) =>
  if x521 = true then
  Chk ((0 : Int) ≤ s520 ∧ s520 < (↑vals0.length : Int))
  (Let (ix vals0 s520) fun (x522 : Int) =>
  Let (x522 != (0 : Int)) fun (x523 : Bool) =>
  if x523 = true then some x522 else Let (IntKind.i64.wrap (s520 + (1 : Int))) fun (x524 : Int) => rec519 x524)
  else some (0 : Int))
  fuel (0 : Int)

noncomputable def broadphase_compare (a0 : PairKey) (b1 : PairKey) : Option Int :=
  Rx.Bind (cmp_Compare a0.BodyA b1.BodyA) fun (r525 : Int) =>
  Rx.Bind (cmp_Compare a0.FixtureA b1.FixtureA) fun (r526 : Int) =>
  Rx.Bind (cmp_Compare a0.BodyB b1.BodyB) fun (r527 : Int) =>
  Rx.Bind (cmp_Compare a0.FixtureB b1.FixtureB) fun (r528 : Int) =>
  Rx.Bind (cmp_Or [r525, r526, r527, r528]) fun (r529 : Int) => some r529

noncomputable def broadphase_Less (a0 : PairKey) (b1 : PairKey) : Option Bool :=
  Rx.Bind (broadphase_compare a0 b1) fun (r530 : Int) => Let (decide (r530 < (0 : Int))) fun (x531 : Bool) => some x531

noncomputable def broadphase_ValidKeys (keys0 : (List PairKey)) : Option Bool :=
  Let (↑keys0.length : Int) fun (x532 : Int) =>
  LOOP
  (fun (rec533 : Int × PairKey → Option Bool) (s534 : Int × PairKey) =>
  Let (decide (s534.fst < x532)) fun (x535 : Bool) =>
  if x535 = true then
  Chk ((0 : Int) ≤ s534.fst ∧ s534.fst < (↑keys0.length : Int))
  (Let (ix keys0 s534.fst) fun (x536 : PairKey) =>
  Rx.Bind (broadphase_valid x536) fun (r537 : Bool) =>
  Let (!r537) fun (x538 : Bool) =>
  Let (decide (s534.fst > (0 : Int))) fun (x539 : Bool) =>
  Let
  (decide (x536.BodyA = s534.snd.BodyA) &&
  (decide (x536.FixtureA = s534.snd.FixtureA) &&
  (decide (x536.BodyB = s534.snd.BodyB) && decide (x536.FixtureB = s534.snd.FixtureB))))
  fun (x540 : Bool) =>
  Rx.Bind
  (if (x538 == false && x539 == true && x540 == false) = true then broadphase_Less s534.snd x536 else some default)
  fun (r541 : Bool) =>
  Let (!r541) fun (x542 : Bool) =>
  Let (bif x540 then true else x542) fun (x543 : Bool) =>
  Let (bif x539 then x543 else false) fun (x544 : Bool) =>
  Let (bif x538 then true else x544) fun (x545 : Bool) =>
  if x545 = true then some false
  else Let (IntKind.i64.wrap (s534.fst + (1 : Int))) fun (x546 : Int) => rec533 (x546, x536))
  else some true)
  fuel ((0 : Int), { BodyA := (0 : Int), FixtureA := (0 : Int), BodyB := (0 : Int), FixtureB := (0 : Int) : PairKey })

noncomputable def slices_Concat (slices0 : (List (List PairKey))) : Option (List PairKey) :=
  Let (↑slices0.length : Int) fun (x547 : Int) =>
  LOOP
  (fun (rec548 : Int × Int → Option (List PairKey)) (s549 : Int × Int) =>
  Let (decide (s549.snd < x547)) fun (x550 : Bool) =>
  if x550 = true then
  Chk ((0 : Int) ≤ s549.snd ∧ s549.snd < (↑slices0.length : Int))
  (Let (ix slices0 s549.snd) fun (x551 : List PairKey) =>
  Let (↑x551.length : Int) fun (x552 : Int) =>
  Let (IntKind.i64.wrap (s549.fst + x552)) fun (x553 : Int) =>
  Let (decide (x553 < (0 : Int))) fun (x554 : Bool) =>
  if x554 = true then none else Let (IntKind.i64.wrap (s549.snd + (1 : Int))) fun (x555 : Int) => rec548 (x553, x555))
  else
  Let (decide (s549.fst < (0 : Int))) fun (x556 : Bool) =>
  if x556 = true then none
  else
  Join
  (fun (v557 : List PairKey) =>
  Let (↑slices0.length : Int) fun (x558 : Int) =>
  LOOP
  (fun (rec559 : List PairKey × Int → Option (List PairKey)) (s560 : List PairKey × Int) =>
  Let (decide (s560.snd < x558)) fun (x561 : Bool) =>
  if x561 = true then
  Chk ((0 : Int) ≤ s560.snd ∧ s560.snd < (↑slices0.length : Int))
  (Let (ix slices0 s560.snd) fun (x562 : List PairKey) =>
  Chk ((List.length s560.fst + x562.length) * (32 : Nat) ≤ (140737488355328 : Nat))
  (Let (s560.fst ++ x562) fun (x563 : List PairKey) =>
  Let (IntKind.i64.wrap (s560.snd + (1 : Int))) fun (x564 : Int) => rec559 (x563, x564)))
  else some s560.fst)
  fuel (v557, (0 : Int)))
  fun (j565 : List PairKey → Option (List PairKey)) =>
  Let (IntKind.i64.wrap ((0 : Int) - (0 : Int))) fun (x566 : Int) =>
  Let (IntKind.i64.wrap (s549.fst - x566)) fun (x567 : Int) =>
  Let (decide (x567 > (0 : Int))) fun (x568 : Bool) =>
  if x568 = true then
  Chk ((0 : Int) = (0 : Int))
  (Chk ((0 : Int) < x567 ∧ x567.toNat * (32 : Nat) ≤ (140737488355328 : Nat) ∧ x567 ≤ (9223372036854775807 : Int))
  (Let
  (List.replicate x567.toNat
  { BodyA := (0 : Int), FixtureA := (0 : Int), BodyB := (0 : Int), FixtureB := (0 : Int) : PairKey })
  fun (x569 : List PairKey) =>
  Chk
  ((0 : Int) ≤ none.getD (0 : Int) ∧
  (0 : Int) ≤ (some (0 : Int)).getD (0 : Int) ∧ (0 : Nat) ≤ Int.toNat (0 : Int) ∧ Int.toNat (0 : Int) ≤ x569.length)
  (Chk (Int.toNat (0 : Int) - (0 : Nat) ≤ x569.length)
  (Let (List.take (Int.toNat (0 : Int) - (0 : Nat)) x569) fun (x570 : List PairKey) => j565 x570))))
  else j565 [])
  fuel ((0 : Int), (0 : Int))

noncomputable def world_fixturesExist (w0 : World_) (k1 : PairKey) : Option Bool :=
  Rx.Bind (world_FindBody w0 k1.BodyA) fun (r571 : Int) =>
  Rx.Bind (world_FindBody w0 k1.BodyB) fun (r572 : Int) =>
  Let (decide (r571 ≥ (0 : Int))) fun (x573 : Bool) =>
  Let (decide (r572 ≥ (0 : Int))) fun (x574 : Bool) =>
  Let (bif x573 then x574 else false) fun (x575 : Bool) =>
  Chk ((x575 == true) = true → (0 : Int) ≤ r571 ∧ r571 < (↑w0.Bodies.length : Int))
  (Let (ix w0.Bodies r571) fun (x576 : Body) =>
  Let (↑x576.Fixtures.length : Int) fun (x577 : Int) =>
  Let (decide (k1.FixtureA < x577)) fun (x578 : Bool) =>
  Let (bif x575 then x578 else false) fun (x579 : Bool) =>
  Chk ((x579 == true) = true → (0 : Int) ≤ r572 ∧ r572 < (↑w0.Bodies.length : Int))
  (Let (ix w0.Bodies r572) fun (x580 : Body) =>
  Let (↑x580.Fixtures.length : Int) fun (x581 : Int) =>
  Let (decide (k1.FixtureB < x581)) fun (x582 : Bool) =>
  Let (bif x579 then x582 else false) fun (x583 : Bool) => some x583))

noncomputable def world_validContacts_1 (k0 : PairKey) (p1 : World_) : Option Bool :=
  Rx.Bind (world_fixturesExist p1 k0) fun (r584 : Bool) => Let (!r584) fun (x585 : Bool) => some x585

noncomputable def slices_IndexFunc_130 (s0 : (List PairKey)) (f1 : (PairKey → Option Bool)) : Option Int :=
  Let (↑s0.length : Int) fun (x586 : Int) =>
  LOOP
  (fun (rec587 : Int → Option Int) (s588 : Int) =>
  Let (decide (s588 < x586)) fun (x589 : Bool) =>
  if x589 = true then
  Chk ((0 : Int) ≤ s588 ∧ s588 < (↑s0.length : Int))
  (Let (ix s0 s588) fun (x590 : PairKey) =>
  Rx.Bind (f1 x590) fun (r591 : Bool) =>
  if r591 = true then some s588 else Let (IntKind.i64.wrap (s588 + (1 : Int))) fun (x592 : Int) => rec587 x592)
  else some (-1 : Int))
  fuel (0 : Int)

noncomputable def slices_ContainsFunc (s0 : (List PairKey)) (f1 : (PairKey → Option Bool)) : Option Bool :=
  Rx.Bind (slices_IndexFunc_130 s0 f1) fun (r593 : Int) => Let (decide (r593 ≥ (0 : Int))) fun (x594 : Bool) => some x594

noncomputable def world_validContacts (w0 : World_) : Option Bool :=
  Let (↑w0.Contacts.length : Int) fun (x595 : Int) =>
  LOOP
  (fun (rec596 : List PairKey × Int → Option Bool) (s597 : List PairKey × Int) =>
  Let (decide (s597.snd < x595)) fun (x598 : Bool) =>
  if x598 = true then
  Chk ((0 : Int) ≤ s597.snd ∧ s597.snd < (↑w0.Contacts.length : Int))
  (Let (ix w0.Contacts s597.snd) fun (x599 : Contact) =>
  Rx.Bind (world_validManifold x599.Manifold) fun (r600 : Bool) =>
  Let (!r600) fun (x601 : Bool) =>
  if x601 = true then some false
  else
  Chk ((List.length s597.fst + [x599.Key].length) * (32 : Nat) ≤ (140737488355328 : Nat))
  (Let (s597.fst ++ [x599.Key]) fun (x602 : List PairKey) =>
  Let (IntKind.i64.wrap (s597.snd + (1 : Int))) fun (x603 : Int) => rec596 (x602, x603)))
  else
  Rx.Bind (broadphase_ValidKeys s597.fst) fun (r604 : Bool) =>
  Let (!r604) fun (x605 : Bool) =>
  Rx.Bind (if (x605 == false) = true then broadphase_ValidKeys w0.Overlaps else some default) fun (r606 : Bool) =>
  Let (!r606) fun (x607 : Bool) =>
  Let (bif x605 then true else x607) fun (x608 : Bool) =>
  if x608 = true then some false
  else
  Rx.Bind (slices_Concat [s597.fst, w0.Overlaps]) fun (r609 : List PairKey) =>
  Rx.Bind (slices_ContainsFunc r609 fun (a : Tup tb [Ix.tPairKey]) => world_validContacts_1 a w0) fun (r610 : Bool) =>
  Let (!r610) fun (x611 : Bool) => some x611)
  fuel ([], (0 : Int))

noncomputable def world_Validate (w0 : World_) : Option Int :=
  Rx.Bind (world_ValidateSettings w0.Settings) fun (r612 : Int) =>
  Let (r612 != (0 : Int)) fun (x613 : Bool) =>
  if x613 = true then some (17 : Int)
  else
  Let (↑w0.Bodies.length : Int) fun (x614 : Int) =>
  Let (decide (x614 > (32 : Int))) fun (x615 : Bool) =>
  Let (↑w0.Joints.length : Int) fun (x616 : Int) =>
  Let (decide (x616 > (32 : Int))) fun (x617 : Bool) =>
  Let (bif x615 then true else x617) fun (x618 : Bool) =>
  Let (↑w0.Contacts.length : Int) fun (x619 : Int) =>
  Let (decide (x619 > (8192 : Int))) fun (x620 : Bool) =>
  Let (bif x618 then true else x620) fun (x621 : Bool) =>
  Let (↑w0.Overlaps.length : Int) fun (x622 : Int) =>
  Let (decide (x622 > (8192 : Int))) fun (x623 : Bool) =>
  Let (bif x621 then true else x623) fun (x624 : Bool) =>
  if x624 = true then some (11 : Int)
  else
  Rx.Bind (world_in w0.NextID (1 : Int) (1099511627776 : Int)) fun (r625 : Bool) =>
  Let (!r625) fun (x626 : Bool) =>
  Rx.Bind (if (x626 == false) = true then world_in w0.Frame (0 : Int) (1099511627776 : Int) else some default)
  fun (r627 : Bool) =>
  Let (!r627) fun (x628 : Bool) =>
  Let (bif x626 then true else x628) fun (x629 : Bool) =>
  if x629 = true then some (6 : Int)
  else
  Rx.Bind (world_validBodies w0) fun (r630 : Bool) =>
  Let (!r630) fun (x631 : Bool) =>
  if x631 = true then some (14 : Int)
  else
  Rx.Bind (world_validJoints w0) fun (r632 : Bool) =>
  Let (!r632) fun (x633 : Bool) =>
  if x633 = true then some (15 : Int)
  else
  Rx.Bind (world_validContacts w0) fun (r634 : Bool) =>
  Let (!r634) fun (x635 : Bool) => if x635 = true then some (16 : Int) else some (0 : Int)

noncomputable def input_UsedFields (k0 : Int) : Option (Bool × Bool × Bool) :=
  Join
  (fun (v636 : Bool) =>
  if v636 = true then some (true, true, false)
  else
  Join
  (fun (v637 : Bool) =>
  if v637 = true then some (true, false, true)
  else
  Join
  (fun (v638 : Bool) =>
  if v638 = true then some (true, true, true)
  else
  Join (fun (v639 : Bool) => if v639 = true then some (true, false, false) else some (false, false, false))
  fun (j640 : Bool → Option (Bool × Bool × Bool)) =>
  Let (k0 == (6 : Int)) fun (x641 : Bool) =>
  if x641 = true then j640 x641
  else
  Let (k0 == (10 : Int)) fun (x642 : Bool) =>
  if x642 = true then j640 x642 else Let (k0 == (12 : Int)) fun (x643 : Bool) => j640 x643)
  fun (j644 : Bool → Option (Bool × Bool × Bool)) =>
  Let (k0 == (4 : Int)) fun (x645 : Bool) =>
  if x645 = true then j644 x645 else Let (k0 == (5 : Int)) fun (x646 : Bool) => j644 x646)
  fun (j647 : Bool → Option (Bool × Bool × Bool)) =>
  Let (k0 == (3 : Int)) fun (x648 : Bool) =>
  if x648 = true then j647 x648 else Let (k0 == (8 : Int)) fun (x649 : Bool) => j647 x649)
  fun (j650 : Bool → Option (Bool × Bool × Bool)) =>
  Let (k0 == (1 : Int)) fun (x651 : Bool) =>
  if x651 = true then j650 x651
  else
  Let (k0 == (2 : Int)) fun (x652 : Bool) =>
  if x652 = true then j650 x652 else Let (k0 == (7 : Int)) fun (x653 : Bool) => j650 x653

noncomputable def input_isSaturated (n0 : Int) : Option Bool :=
  Let (decide (n0 ≥ (-536870911 : Int))) fun (x654 : Bool) =>
  Let (decide (n0 ≤ (536870911 : Int))) fun (x655 : Bool) =>
  Let (bif x654 then x655 else false) fun (x656 : Bool) => some x656

noncomputable def slices_Equal_166 (s10 : (List Vec)) (s21 : (List Vec)) : Option Bool :=
  Let (↑s10.length : Int) fun (x657 : Int) =>
  Let (↑s21.length : Int) fun (x658 : Int) =>
  Let (x657 != x658) fun (x659 : Bool) =>
  if x659 = true then some false
  else
  Let (↑s10.length : Int) fun (x660 : Int) =>
  LOOP
  (fun (rec661 : Int → Option Bool) (s662 : Int) =>
  Let (decide (s662 < x660)) fun (x663 : Bool) =>
  if x663 = true then
  Chk ((0 : Int) ≤ s662 ∧ s662 < (↑s10.length : Int))
  (Let (ix s10 s662) fun (x664 : Vec) =>
  Chk ((0 : Int) ≤ s662 ∧ s662 < (↑s21.length : Int))
  (Let (ix s21 s662) fun (x665 : Vec) =>
  Let (!(decide (x664.X = x665.X) && decide (x664.Y = x665.Y))) fun (x666 : Bool) =>
  if x666 = true then some false else Let (IntKind.i64.wrap (s662 + (1 : Int))) fun (x667 : Int) => rec661 x667))
  else some true)
  fuel (0 : Int)

noncomputable def shape_Equal (a0 : Shape) (b1 : Shape) : Option Bool :=
  Let (a0.Kind == b1.Kind) fun (x668 : Bool) =>
  Let (a0.Radius == b1.Radius) fun (x669 : Bool) =>
  Let (bif x668 then x669 else false) fun (x670 : Bool) =>
  Rx.Bind (if (x670 == true) = true then slices_Equal_166 a0.Vertices b1.Vertices else some default) fun (r671 : Bool) =>
  Let (bif x670 then r671 else false) fun (x672 : Bool) => some x672

noncomputable def body_equalFixtures (a0 : Fixture) (b1 : Fixture) : Option Bool :=
  Let (a0.Density == b1.Density) fun (x673 : Bool) =>
  Let (a0.Friction == b1.Friction) fun (x674 : Bool) =>
  Let (bif x673 then x674 else false) fun (x675 : Bool) =>
  Let (a0.Restitution == b1.Restitution) fun (x676 : Bool) =>
  Let (bif x675 then x676 else false) fun (x677 : Bool) =>
  Let (a0.Sensor == b1.Sensor) fun (x678 : Bool) =>
  Let (a0.Category == b1.Category) fun (x679 : Bool) =>
  Let (bif x678 then x679 else false) fun (x680 : Bool) =>
  Let (a0.Mask == b1.Mask) fun (x681 : Bool) =>
  Let (bif x680 then x681 else false) fun (x682 : Bool) =>
  Let (a0.Group == b1.Group) fun (x683 : Bool) =>
  Let (bif x682 then x683 else false) fun (x684 : Bool) =>
  Rx.Bind (shape_Equal a0.Shape b1.Shape) fun (r685 : Bool) =>
  Let (bif r685 then x677 else false) fun (x686 : Bool) =>
  Let (bif x686 then x684 else false) fun (x687 : Bool) => some x687

noncomputable def body_Equal (a0 : Body) (b1 : Body) : Option Bool :=
  Let (↑a0.Fixtures.length : Int) fun (x688 : Int) =>
  Let (↑b1.Fixtures.length : Int) fun (x689 : Int) =>
  Let (x688 != x689) fun (x690 : Bool) =>
  if x690 = true then some false
  else
  Let (↑a0.Fixtures.length : Int) fun (x691 : Int) =>
  LOOP
  (fun (rec692 : Int → Option Bool) (s693 : Int) =>
  Let (decide (s693 < x691)) fun (x694 : Bool) =>
  if x694 = true then
  Chk ((0 : Int) ≤ s693 ∧ s693 < (↑a0.Fixtures.length : Int))
  (Let (ix a0.Fixtures s693) fun (x695 : Fixture) =>
  Chk ((0 : Int) ≤ s693 ∧ s693 < (↑b1.Fixtures.length : Int))
  (Let (ix b1.Fixtures s693) fun (x696 : Fixture) =>
  Rx.Bind (body_equalFixtures x695 x696) fun (r697 : Bool) =>
  Let (!r697) fun (x698 : Bool) =>
  if x698 = true then some false else Let (IntKind.i64.wrap (s693 + (1 : Int))) fun (x699 : Int) => rec692 x699))
  else
  Let (a0.ID == b1.ID) fun (x700 : Bool) =>
  Let (a0.Kind == b1.Kind) fun (x701 : Bool) =>
  Let (bif x700 then x701 else false) fun (x702 : Bool) =>
  Let
  (decide (a0.Transform.Position.X = b1.Transform.Position.X) &&
  decide (a0.Transform.Position.Y = b1.Transform.Position.Y) &&
  decide (a0.Transform.Angle = b1.Transform.Angle))
  fun (x703 : Bool) =>
  Let (bif x702 then x703 else false) fun (x704 : Bool) =>
  Let (decide (a0.Velocity.X = b1.Velocity.X) && decide (a0.Velocity.Y = b1.Velocity.Y)) fun (x705 : Bool) =>
  Let (a0.AngularVelocity == b1.AngularVelocity) fun (x706 : Bool) =>
  Let (bif x705 then x706 else false) fun (x707 : Bool) =>
  Let (decide (a0.Force.X = b1.Force.X) && decide (a0.Force.Y = b1.Force.Y)) fun (x708 : Bool) =>
  Let (a0.Torque == b1.Torque) fun (x709 : Bool) =>
  Let (bif x708 then x709 else false) fun (x710 : Bool) =>
  Let (a0.LinearDamping == b1.LinearDamping) fun (x711 : Bool) =>
  Let (a0.AngularDamping == b1.AngularDamping) fun (x712 : Bool) =>
  Let (bif x711 then x712 else false) fun (x713 : Bool) =>
  Let (a0.GravityScale == b1.GravityScale) fun (x714 : Bool) =>
  Let (bif x713 then x714 else false) fun (x715 : Bool) =>
  Let (a0.Bullet == b1.Bullet) fun (x716 : Bool) =>
  Let (a0.FixedRotation == b1.FixedRotation) fun (x717 : Bool) =>
  Let (bif x716 then x717 else false) fun (x718 : Bool) =>
  Let (a0.NoSleep == b1.NoSleep) fun (x719 : Bool) =>
  Let (bif x718 then x719 else false) fun (x720 : Bool) =>
  Let (a0.Asleep == b1.Asleep) fun (x721 : Bool) =>
  Let (a0.IdleSteps == b1.IdleSteps) fun (x722 : Bool) =>
  Let (bif x721 then x722 else false) fun (x723 : Bool) =>
  Let (bif x704 then x707 else false) fun (x724 : Bool) =>
  Let (bif x724 then x710 else false) fun (x725 : Bool) =>
  Let (bif x725 then x715 else false) fun (x726 : Bool) =>
  Let (bif x726 then x720 else false) fun (x727 : Bool) =>
  Let (bif x727 then x723 else false) fun (x728 : Bool) => some x728)
  fuel (0 : Int)

noncomputable def input_Validate (x0 : Input) : Option Int :=
  Let (decide (x0.Kind < (1 : Int))) fun (x729 : Bool) =>
  Let (decide (x0.Kind > (12 : Int))) fun (x730 : Bool) =>
  Let (bif x729 then true else x730) fun (x731 : Bool) =>
  if x731 = true then some (10 : Int)
  else
  Rx.Bind (input_UsedFields x0.Kind) fun (r732 : Bool × Bool × Bool) =>
  Join
  (fun (v733 : Bool) =>
  if v733 = true then some (6 : Int)
  else
  Join (fun (v734 : Bool) => if v734 = true then some (3 : Int) else some (0 : Int)) fun (j735 : Bool → Option Int) =>
  Let (!r732.fst) fun (x736 : Bool) =>
  Let (x0.ID != (0 : Int)) fun (x737 : Bool) =>
  Let (bif x736 then x737 else false) fun (x738 : Bool) =>
  if x738 = true then j735 x738
  else
  Let (!r732.snd.fst) fun (x739 : Bool) =>
  Let (!(decide (x0.Vec.X = (0 : Int)) && decide (x0.Vec.Y = (0 : Int)))) fun (x740 : Bool) =>
  Let (bif x739 then x740 else false) fun (x741 : Bool) =>
  if x741 = true then j735 x741
  else
  Let (!r732.snd.snd) fun (x742 : Bool) =>
  Let (x0.Value != (0 : Int)) fun (x743 : Bool) =>
  Let (bif x742 then x743 else false) fun (x744 : Bool) =>
  if x744 = true then j735 x744
  else
  Let (x0.Kind != (9 : Int)) fun (x745 : Bool) =>
  Rx.Bind
  (if (x745 == true) = true then
  body_Equal x0.Body
  { ID := (0 : Int), Kind := (0 : Int), Transform := { Position := { X := (0 : Int), Y := (0 : Int) : Vec }, Angle := (0 : Int) : Transform }, Velocity := { X := (0 : Int), Y := (0 : Int) : Vec }, AngularVelocity := (0 : Int), Force := { X := (0 : Int), Y := (0 : Int) : Vec }, Torque := (0 : Int), LinearDamping := (0 : Int), AngularDamping := (0 : Int), GravityScale := (0 : Int), Bullet := false, FixedRotation := false, NoSleep := false, Asleep := false, IdleSteps := (0 : Int), Fixtures := [] : Body }
  else some default)
  fun (r746 : Bool) =>
  Let (!r746) fun (x747 : Bool) =>
  Let (bif x745 then x747 else false) fun (x748 : Bool) =>
  if x748 = true then j735 x748
  else
  Let (x0.Kind != (11 : Int)) fun (x749 : Bool) =>
  Let
  (!(decide (x0.Joint.ID = (0 : Int)) &&
  (decide (x0.Joint.Kind = (0 : Int)) &&
  (decide (x0.Joint.BodyA = (0 : Int)) &&
  (decide (x0.Joint.BodyB = (0 : Int)) &&
  (decide (x0.Joint.AnchorA.X = (0 : Int)) && decide (x0.Joint.AnchorA.Y = (0 : Int)) &&
  (decide (x0.Joint.AnchorB.X = (0 : Int)) && decide (x0.Joint.AnchorB.Y = (0 : Int)) &&
  (decide (x0.Joint.Axis.X = (0 : Int)) && decide (x0.Joint.Axis.Y = (0 : Int)) &&
  (decide (x0.Joint.ReferenceAngle = (0 : Int)) &&
  (decide (x0.Joint.EnableLimit = false) &&
  (decide (x0.Joint.Lower = (0 : Int)) &&
  (decide (x0.Joint.Upper = (0 : Int)) &&
  (decide (x0.Joint.EnableMotor = false) &&
  (decide (x0.Joint.MotorSpeed = (0 : Int)) &&
  (decide (x0.Joint.MaxForce = (0 : Int)) &&
  (decide (x0.Joint.Softness = (0 : Int)) &&
  (decide (x0.Joint.BreakForce = (0 : Int)) &&
  (decide (x0.Joint.CollideConnected = false) &&
  (decide (x0.Joint.Impulses.fst = (0 : Int)) &&
  (decide (x0.Joint.Impulses.snd.fst = (0 : Int)) &&
  (decide (x0.Joint.Impulses.snd.snd.fst = (0 : Int)) &&
  decide (x0.Joint.Impulses.snd.snd.snd = (0 : Int)))))))))))))))))))))))
  fun (x750 : Bool) => Let (bif x749 then x750 else false) fun (x751 : Bool) => j735 x751)
  fun (j752 : Bool → Option Int) =>
  Let (decide (x0.ID < (1 : Int))) fun (x753 : Bool) =>
  Let (decide (x0.ID > (1099511627776 : Int))) fun (x754 : Bool) =>
  Let (bif x753 then true else x754) fun (x755 : Bool) =>
  Let (bif r732.fst then x755 else false) fun (x756 : Bool) =>
  if x756 = true then j752 x756
  else
  Rx.Bind (if (r732.snd.fst == true) = true then input_isSaturated x0.Vec.X else some default) fun (r757 : Bool) =>
  Let (!r757) fun (x758 : Bool) =>
  Rx.Bind (if (r732.snd.fst == true && x758 == false) = true then input_isSaturated x0.Vec.Y else some default)
  fun (r759 : Bool) =>
  Let (!r759) fun (x760 : Bool) =>
  Let (bif x758 then true else x760) fun (x761 : Bool) =>
  Let (bif r732.snd.fst then x761 else false) fun (x762 : Bool) =>
  if x762 = true then j752 x762
  else
  Rx.Bind (if (r732.snd.snd == true) = true then input_isSaturated x0.Value else some default) fun (r763 : Bool) =>
  Let (!r763) fun (x764 : Bool) => Let (bif r732.snd.snd then x764 else false) fun (x765 : Bool) => j752 x765

noncomputable def slices_Clone_158 (s0 : (List Vec)) : Option (List Vec) :=
  Rx.Alike (s0 = []) (some []) (Chk (s0.length * (16 : Nat) ≤ (140737488355328 : Nat)) (some s0))

noncomputable def shape_Clone (s0 : Shape) : Option Shape :=
  Rx.Bind (slices_Clone_158 s0.Vertices) fun (r766 : List Vec) =>
  some { Kind := s0.Kind, Radius := s0.Radius, Vertices := r766 : Shape }

noncomputable def body_Clone (b0 : Body) : Option Body :=
  Let (↑b0.Fixtures.length : Int) fun (x767 : Int) =>
  LOOP
  (fun (rec768 : List Fixture × Int → Option Body) (s769 : List Fixture × Int) =>
  Let (decide (s769.snd < x767)) fun (x770 : Bool) =>
  if x770 = true then
  Chk ((0 : Int) ≤ s769.snd ∧ s769.snd < (↑b0.Fixtures.length : Int))
  (Let (ix b0.Fixtures s769.snd) fun (x771 : Fixture) =>
  Rx.Bind (shape_Clone x771.Shape) fun (r772 : Shape) =>
  Chk
  ((List.length s769.fst +
  [{ Shape := r772, Density := x771.Density, Friction := x771.Friction, Restitution := x771.Restitution, Sensor := x771.Sensor, Category := x771.Category, Mask := x771.Mask, Group := x771.Group : Fixture }].length) *
  (96 : Nat) ≤
  (140737488355328 : Nat))
  (Let
  (s769.fst ++
  [{ Shape := r772, Density := x771.Density, Friction := x771.Friction, Restitution := x771.Restitution, Sensor := x771.Sensor, Category := x771.Category, Mask := x771.Mask, Group := x771.Group : Fixture }])
  fun (x773 : List Fixture) => Let (IntKind.i64.wrap (s769.snd + (1 : Int))) fun (x774 : Int) => rec768 (x773, x774)))
  else
  some
  { ID := b0.ID, Kind := b0.Kind, Transform := b0.Transform, Velocity := b0.Velocity, AngularVelocity := b0.AngularVelocity, Force := b0.Force, Torque := b0.Torque, LinearDamping := b0.LinearDamping, AngularDamping := b0.AngularDamping, GravityScale := b0.GravityScale, Bullet := b0.Bullet, FixedRotation := b0.FixedRotation, NoSleep := b0.NoSleep, Asleep := b0.Asleep, IdleSteps := b0.IdleSteps, Fixtures := s769.fst : Body })
  fuel ([], (0 : Int))

noncomputable def slices_Clone (s0 : (List Body)) : Option (List Body) :=
  Rx.Alike (s0 = []) (some []) (Chk (s0.length * (152 : Nat) ≤ (140737488355328 : Nat)) (some s0))

noncomputable def slices_Clone_107 (s0 : (List Joint)) : Option (List Joint) :=
  Rx.Alike (s0 = []) (some []) (Chk (s0.length * (192 : Nat) ≤ (140737488355328 : Nat)) (some s0))

noncomputable def slices_Clone_108 (s0 : (List Contact)) : Option (List Contact) :=
  Rx.Alike (s0 = []) (some []) (Chk (s0.length * (72 : Nat) ≤ (140737488355328 : Nat)) (some s0))

noncomputable def slices_Clone_109 (s0 : (List PairKey)) : Option (List PairKey) :=
  Rx.Alike (s0 = []) (some []) (Chk (s0.length * (32 : Nat) ≤ (140737488355328 : Nat)) (some s0))

noncomputable def slices_Clone_159 (s0 : (List ContactPoint)) : Option (List ContactPoint) :=
  Rx.Alike (s0 = []) (some []) (Chk (s0.length * (48 : Nat) ≤ (140737488355328 : Nat)) (some s0))

noncomputable def manifold_Clone (m0 : Manifold) : Option Manifold :=
  Rx.Bind (slices_Clone_159 m0.Points) fun (r775 : List ContactPoint) =>
  some { Normal := m0.Normal, Points := r775 : Manifold }

noncomputable def world_Clone (w0 : World_) : Option World_ :=
  Rx.Bind (slices_Clone w0.Bodies) fun (r776 : List Body) =>
  Rx.Bind (slices_Clone_107 w0.Joints) fun (r777 : List Joint) =>
  Rx.Bind (slices_Clone_108 w0.Contacts) fun (r778 : List Contact) =>
  Rx.Bind (slices_Clone_109 w0.Overlaps) fun (r779 : List PairKey) =>
  Let (↑r776.length : Int) fun (x780 : Int) =>
  LOOP
  (fun (rec781 : Int × List Body → Option World_) (s782 : Int × List Body) =>
  Let (decide (s782.fst < x780)) fun (x783 : Bool) =>
  if x783 = true then
  Chk ((0 : Int) ≤ s782.fst ∧ s782.fst < (↑(List.length s782.snd) : Int))
  (Chk ((0 : Int) ≤ s782.fst ∧ s782.fst < (↑(List.length s782.snd) : Int))
  (Let (ix s782.snd s782.fst) fun (x784 : Body) =>
  Rx.Bind (body_Clone x784) fun (r785 : Body) =>
  Chk ((0 : Int) ≤ s782.fst ∧ s782.fst < (↑(List.length s782.snd) : Int))
  (Chk ((0 : Int) ≤ s782.fst ∧ s782.fst < (↑(List.length s782.snd) : Int))
  (Let (List.set s782.snd (Int.toNat s782.fst) r785) fun (x786 : List Body) =>
  Let (IntKind.i64.wrap (s782.fst + (1 : Int))) fun (x787 : Int) => rec781 (x787, x786)))))
  else
  Let (↑r778.length : Int) fun (x788 : Int) =>
  LOOP
  (fun (rec789 : Int × List Contact → Option World_) (s790 : Int × List Contact) =>
  Let (decide (s790.fst < x788)) fun (x791 : Bool) =>
  if x791 = true then
  Chk ((0 : Int) ≤ s790.fst ∧ s790.fst < (↑(List.length s790.snd) : Int))
  (Chk ((0 : Int) ≤ s790.fst ∧ s790.fst < (↑(List.length s790.snd) : Int))
  (Let (ix s790.snd s790.fst) fun (x792 : Contact) =>
  Rx.Bind (manifold_Clone x792.Manifold) fun (r793 : Manifold) =>
  Chk ((0 : Int) ≤ s790.fst ∧ s790.fst < (↑(List.length s790.snd) : Int))
  (Chk ((0 : Int) ≤ s790.fst ∧ s790.fst < (↑(List.length s790.snd) : Int))
  (Let (List.set s790.snd (Int.toNat s790.fst) { Key := (ix s790.snd s790.fst).Key, Manifold := r793 : Contact })
  fun (x794 : List Contact) => Let (IntKind.i64.wrap (s790.fst + (1 : Int))) fun (x795 : Int) => rec789 (x795, x794)))))
  else
  some
  { Settings := w0.Settings, Bodies := s782.snd, Joints := r777, Contacts := s790.snd, Overlaps := r779, NextID := w0.NextID, Frame := w0.Frame : World_ })
  fuel ((0 : Int), r778))
  fuel ((0 : Int), r776)

noncomputable def world_AddBody (w0 : World_) (b1 : Body) : Option (World_ × Int × Int) :=
  Let (↑w0.Bodies.length : Int) fun (x796 : Int) =>
  Let (decide (x796 ≥ (32 : Int))) fun (x797 : Bool) =>
  Let (decide (w0.NextID ≥ (1099511627776 : Int))) fun (x798 : Bool) =>
  Let (bif x797 then true else x798) fun (x799 : Bool) =>
  if x799 = true then
  some
  ({ Settings := { TimeStep := (0 : Int), Gravity := { X := (0 : Int), Y := (0 : Int) : Vec }, Iterations := (0 : Int), SleepSteps := (0 : Int) : Settings }, Bodies := [], Joints := [], Contacts := [], Overlaps := [], NextID := (0 : Int), Frame := (0 : Int) : World_ },
  (0 : Int), (9 : Int))
  else
  Rx.Bind (body_Clone b1) fun (r800 : Body) =>
  Rx.Bind
  (body_Validate
  { ID := w0.NextID, Kind := r800.Kind, Transform := r800.Transform, Velocity := r800.Velocity, AngularVelocity := r800.AngularVelocity, Force := r800.Force, Torque := r800.Torque, LinearDamping := r800.LinearDamping, AngularDamping := r800.AngularDamping, GravityScale := r800.GravityScale, Bullet := r800.Bullet, FixedRotation := r800.FixedRotation, NoSleep := r800.NoSleep, Asleep := r800.Asleep, IdleSteps := r800.IdleSteps, Fixtures := r800.Fixtures : Body })
  fun (r801 : Int) =>
  Let (r801 != (0 : Int)) fun (x802 : Bool) =>
  if x802 = true then
  some
  ({ Settings := { TimeStep := (0 : Int), Gravity := { X := (0 : Int), Y := (0 : Int) : Vec }, Iterations := (0 : Int), SleepSteps := (0 : Int) : Settings }, Bodies := [], Joints := [], Contacts := [], Overlaps := [], NextID := (0 : Int), Frame := (0 : Int) : World_ },
  (0 : Int), (14 : Int))
  else
  Rx.Bind (world_Clone w0) fun (r803 : World_) =>
  Chk
  ((r803.Bodies.length +
  [{ ID := w0.NextID, Kind := r800.Kind, Transform := r800.Transform, Velocity := r800.Velocity, AngularVelocity := r800.AngularVelocity, Force := r800.Force, Torque := r800.Torque, LinearDamping := r800.LinearDamping, AngularDamping := r800.AngularDamping, GravityScale := r800.GravityScale, Bullet := r800.Bullet, FixedRotation := r800.FixedRotation, NoSleep := r800.NoSleep, Asleep := r800.Asleep, IdleSteps := r800.IdleSteps, Fixtures := r800.Fixtures : Body }].length) *
  (152 : Nat) ≤
  (140737488355328 : Nat))
  (Let
  (r803.Bodies ++
  [{ ID := w0.NextID, Kind := r800.Kind, Transform := r800.Transform, Velocity := r800.Velocity, AngularVelocity := r800.AngularVelocity, Force := r800.Force, Torque := r800.Torque, LinearDamping := r800.LinearDamping, AngularDamping := r800.AngularDamping, GravityScale := r800.GravityScale, Bullet := r800.Bullet, FixedRotation := r800.FixedRotation, NoSleep := r800.NoSleep, Asleep := r800.Asleep, IdleSteps := r800.IdleSteps, Fixtures := r800.Fixtures : Body }])
  fun (x804 : List Body) =>
  Let (IntKind.i64.wrap (r803.NextID + (1 : Int))) fun (x805 : Int) =>
  some
  ({ Settings := r803.Settings, Bodies := x804, Joints := r803.Joints, Contacts := r803.Contacts, Overlaps := r803.Overlaps, NextID := x805, Frame := r803.Frame : World_ },
  w0.NextID, (0 : Int)))

noncomputable def joint_ResetImpulses (j0 : Joint) : Option Joint :=
  Let
  (decide (j0.Impulses.fst = (0 : Int)) &&
  (decide (j0.Impulses.snd.fst = (0 : Int)) &&
  (decide (j0.Impulses.snd.snd.fst = (0 : Int)) && decide (j0.Impulses.snd.snd.snd = (0 : Int)))))
  fun (x806 : Bool) =>
  if x806 = true then some j0
  else
  some
  { ID := j0.ID, Kind := j0.Kind, BodyA := j0.BodyA, BodyB := j0.BodyB, AnchorA := j0.AnchorA, AnchorB := j0.AnchorB, Axis := j0.Axis, ReferenceAngle := j0.ReferenceAngle, EnableLimit := j0.EnableLimit, Lower := j0.Lower, Upper := j0.Upper, EnableMotor := j0.EnableMotor, MotorSpeed := j0.MotorSpeed, MaxForce := j0.MaxForce, Softness := j0.Softness, BreakForce := j0.BreakForce, CollideConnected := j0.CollideConnected, Impulses := ((0 : Int), (0 : Int), (0 : Int), (0 : Int)) : Joint }

noncomputable def world_WakeBody (w0 : World_) (id1 : Int) : Option World_ :=
  Rx.Bind (world_Clone w0) fun (r807 : World_) =>
  Join
  (fun (v808 : List Body) =>
  some
  { Settings := r807.Settings, Bodies := v808, Joints := r807.Joints, Contacts := r807.Contacts, Overlaps := r807.Overlaps, NextID := r807.NextID, Frame := r807.Frame : World_ })
  fun (j809 : List Body → Option World_) =>
  Rx.Bind (world_FindBody r807 id1) fun (r810 : Int) =>
  Let (decide (r810 ≥ (0 : Int))) fun (x811 : Bool) =>
  Chk ((x811 == true) = true → (0 : Int) ≤ r810 ∧ r810 < (↑r807.Bodies.length : Int))
  (Chk ((x811 == true) = true → (0 : Int) ≤ r810 ∧ r810 < (↑r807.Bodies.length : Int))
  (Let (ix r807.Bodies r810) fun (x812 : Body) =>
  Let (x812.Kind == (3 : Int)) fun (x813 : Bool) =>
  Let (bif x811 then x813 else false) fun (x814 : Bool) =>
  if x814 = true then
  Chk ((0 : Int) ≤ r810 ∧ r810 < (↑r807.Bodies.length : Int))
  (Chk ((0 : Int) ≤ r810 ∧ r810 < (↑r807.Bodies.length : Int))
  (Let
  (r807.Bodies.set r810.toNat
  { ID := (ix r807.Bodies r810).ID, Kind := (ix r807.Bodies r810).Kind, Transform := (ix r807.Bodies r810).Transform, Velocity := (ix r807.Bodies r810).Velocity, AngularVelocity := (ix r807.Bodies r810).AngularVelocity, Force := (ix r807.Bodies r810).Force, Torque := (ix r807.Bodies r810).Torque, LinearDamping := (ix r807.Bodies r810).LinearDamping, AngularDamping := (ix r807.Bodies r810).AngularDamping, GravityScale := (ix r807.Bodies r810).GravityScale, Bullet := (ix r807.Bodies r810).Bullet, FixedRotation := (ix r807.Bodies r810).FixedRotation, NoSleep := (ix r807.Bodies r810).NoSleep, Asleep := false, IdleSteps := (ix r807.Bodies r810).IdleSteps, Fixtures := (ix r807.Bodies r810).Fixtures : Body })
  fun (x815 : List Body) =>
  Chk ((0 : Int) ≤ r810 ∧ r810 < (↑x815.length : Int))
  (Chk ((0 : Int) ≤ r810 ∧ r810 < (↑x815.length : Int))
  (Let
  (x815.set r810.toNat
  { ID := (ix x815 r810).ID, Kind := (ix x815 r810).Kind, Transform := (ix x815 r810).Transform, Velocity := (ix x815 r810).Velocity, AngularVelocity := (ix x815 r810).AngularVelocity, Force := (ix x815 r810).Force, Torque := (ix x815 r810).Torque, LinearDamping := (ix x815 r810).LinearDamping, AngularDamping := (ix x815 r810).AngularDamping, GravityScale := (ix x815 r810).GravityScale, Bullet := (ix x815 r810).Bullet, FixedRotation := (ix x815 r810).FixedRotation, NoSleep := (ix x815 r810).NoSleep, Asleep := (ix x815 r810).Asleep, IdleSteps := (0 : Int), Fixtures := (ix x815 r810).Fixtures : Body })
  fun (x816 : List Body) => j809 x816))))
  else j809 r807.Bodies))

noncomputable def world_wakeAll (w0 : World_) (ids1 : (List Int)) : Option World_ :=
  Let (↑ids1.length : Int) fun (x817 : Int) =>
  LOOP
  (fun (rec818 : Int × World_ → Option World_) (s819 : Int × World_) =>
  Let (decide (s819.fst < x817)) fun (x820 : Bool) =>
  if x820 = true then
  Join (fun (v821 : World_) => Let (IntKind.i64.wrap (s819.fst + (1 : Int))) fun (x822 : Int) => rec818 (x822, v821))
  fun (j823 : World_ → Option World_) =>
  Chk ((0 : Int) ≤ s819.fst ∧ s819.fst < (↑ids1.length : Int))
  (Let (ix ids1 s819.fst) fun (x824 : Int) =>
  Let (x824 != (0 : Int)) fun (x825 : Bool) =>
  if x825 = true then Rx.Bind (world_WakeBody s819.snd x824) fun (r826 : World_) => j823 r826 else j823 s819.snd)
  else some s819.snd)
  fuel ((0 : Int), w0)

noncomputable def world_AddJoint (w0 : World_) (j1 : Joint) : Option (World_ × Int × Int) :=
  Let (↑w0.Joints.length : Int) fun (x827 : Int) =>
  Let (decide (x827 ≥ (32 : Int))) fun (x828 : Bool) =>
  Let (decide (w0.NextID ≥ (1099511627776 : Int))) fun (x829 : Bool) =>
  Let (bif x828 then true else x829) fun (x830 : Bool) =>
  if x830 = true then
  some
  ({ Settings := { TimeStep := (0 : Int), Gravity := { X := (0 : Int), Y := (0 : Int) : Vec }, Iterations := (0 : Int), SleepSteps := (0 : Int) : Settings }, Bodies := [], Joints := [], Contacts := [], Overlaps := [], NextID := (0 : Int), Frame := (0 : Int) : World_ },
  (0 : Int), (9 : Int))
  else
  Rx.Bind (joint_ResetImpulses j1) fun (r831 : Joint) =>
  Rx.Bind
  (joint_Validate
  { ID := w0.NextID, Kind := r831.Kind, BodyA := r831.BodyA, BodyB := r831.BodyB, AnchorA := r831.AnchorA, AnchorB := r831.AnchorB, Axis := r831.Axis, ReferenceAngle := r831.ReferenceAngle, EnableLimit := r831.EnableLimit, Lower := r831.Lower, Upper := r831.Upper, EnableMotor := r831.EnableMotor, MotorSpeed := r831.MotorSpeed, MaxForce := r831.MaxForce, Softness := r831.Softness, BreakForce := r831.BreakForce, CollideConnected := r831.CollideConnected, Impulses := r831.Impulses : Joint })
  fun (r832 : Int) =>
  Let (r832 != (0 : Int)) fun (x833 : Bool) =>
  Rx.Bind
  (if (x833 == false) = true then
  world_bodiesExist w0
  { ID := w0.NextID, Kind := r831.Kind, BodyA := r831.BodyA, BodyB := r831.BodyB, AnchorA := r831.AnchorA, AnchorB := r831.AnchorB, Axis := r831.Axis, ReferenceAngle := r831.ReferenceAngle, EnableLimit := r831.EnableLimit, Lower := r831.Lower, Upper := r831.Upper, EnableMotor := r831.EnableMotor, MotorSpeed := r831.MotorSpeed, MaxForce := r831.MaxForce, Softness := r831.Softness, BreakForce := r831.BreakForce, CollideConnected := r831.CollideConnected, Impulses := r831.Impulses : Joint }
  else some default)
  fun (r834 : Bool) =>
  Let (!r834) fun (x835 : Bool) =>
  Let (bif x833 then true else x835) fun (x836 : Bool) =>
  if x836 = true then
  some
  ({ Settings := { TimeStep := (0 : Int), Gravity := { X := (0 : Int), Y := (0 : Int) : Vec }, Iterations := (0 : Int), SleepSteps := (0 : Int) : Settings }, Bodies := [], Joints := [], Contacts := [], Overlaps := [], NextID := (0 : Int), Frame := (0 : Int) : World_ },
  (0 : Int), (15 : Int))
  else
  Rx.Bind (world_Clone w0) fun (r837 : World_) =>
  Chk
  ((r837.Joints.length +
  [{ ID := w0.NextID, Kind := r831.Kind, BodyA := r831.BodyA, BodyB := r831.BodyB, AnchorA := r831.AnchorA, AnchorB := r831.AnchorB, Axis := r831.Axis, ReferenceAngle := r831.ReferenceAngle, EnableLimit := r831.EnableLimit, Lower := r831.Lower, Upper := r831.Upper, EnableMotor := r831.EnableMotor, MotorSpeed := r831.MotorSpeed, MaxForce := r831.MaxForce, Softness := r831.Softness, BreakForce := r831.BreakForce, CollideConnected := r831.CollideConnected, Impulses := r831.Impulses : Joint }].length) *
  (192 : Nat) ≤
  (140737488355328 : Nat))
  (Let
  (r837.Joints ++
  [{ ID := w0.NextID, Kind := r831.Kind, BodyA := r831.BodyA, BodyB := r831.BodyB, AnchorA := r831.AnchorA, AnchorB := r831.AnchorB, Axis := r831.Axis, ReferenceAngle := r831.ReferenceAngle, EnableLimit := r831.EnableLimit, Lower := r831.Lower, Upper := r831.Upper, EnableMotor := r831.EnableMotor, MotorSpeed := r831.MotorSpeed, MaxForce := r831.MaxForce, Softness := r831.Softness, BreakForce := r831.BreakForce, CollideConnected := r831.CollideConnected, Impulses := r831.Impulses : Joint }])
  fun (x838 : List Joint) =>
  Let (IntKind.i64.wrap (r837.NextID + (1 : Int))) fun (x839 : Int) =>
  Rx.Bind
  (world_wakeAll
  { Settings := r837.Settings, Bodies := r837.Bodies, Joints := x838, Contacts := r837.Contacts, Overlaps := r837.Overlaps, NextID := x839, Frame := r837.Frame : World_ }
  [r831.BodyA, r831.BodyB])
  fun (r840 : World_) => some (r840, w0.NextID, (0 : Int)))

noncomputable def world_RemoveBody_1 (k0 : PairKey) (p1 : Int) : Option Bool :=
  Let (k0.BodyA == p1) fun (x841 : Bool) =>
  Let (k0.BodyB == p1) fun (x842 : Bool) => Let (bif x841 then true else x842) fun (x843 : Bool) => some x843

noncomputable def joint_Attached (j0 : Joint) (id1 : Int) : Option Bool :=
  Let (id1 != (0 : Int)) fun (x844 : Bool) =>
  Let (j0.BodyA == id1) fun (x845 : Bool) =>
  Let (j0.BodyB == id1) fun (x846 : Bool) =>
  Let (bif x845 then true else x846) fun (x847 : Bool) =>
  Let (bif x844 then x847 else false) fun (x848 : Bool) => some x848

noncomputable def world_other (a0 : Int) (b1 : Int) (id2 : Int) : Option Int :=
  Let (a0 == id2) fun (x849 : Bool) => if x849 = true then some b1 else some a0

noncomputable def world_RemoveBody_2 (j0 : Joint) (p1 : Int) : Option Bool :=
  Rx.Bind (joint_Attached j0 p1) fun (r850 : Bool) => some r850

noncomputable def slices_IndexFunc_128 (s0 : (List Joint)) (f1 : (Joint → Option Bool)) : Option Int :=
  Let (↑s0.length : Int) fun (x851 : Int) =>
  LOOP
  (fun (rec852 : Int → Option Int) (s853 : Int) =>
  Let (decide (s853 < x851)) fun (x854 : Bool) =>
  if x854 = true then
  Chk ((0 : Int) ≤ s853 ∧ s853 < (↑s0.length : Int))
  (Let (ix s0 s853) fun (x855 : Joint) =>
  Rx.Bind (f1 x855) fun (r856 : Bool) =>
  if r856 = true then some s853 else Let (IntKind.i64.wrap (s853 + (1 : Int))) fun (x857 : Int) => rec852 x857)
  else some (-1 : Int))
  fuel (0 : Int)

noncomputable def world_RemoveBody (w0 : World_) (id1 : Int) : Option (World_ × Int) :=
  Rx.Bind (world_FindBody w0 id1) fun (r858 : Int) =>
  Let (decide (r858 < (0 : Int))) fun (x859 : Bool) =>
  if x859 = true then
  some
  ({ Settings := { TimeStep := (0 : Int), Gravity := { X := (0 : Int), Y := (0 : Int) : Vec }, Iterations := (0 : Int), SleepSteps := (0 : Int) : Settings }, Bodies := [], Joints := [], Contacts := [], Overlaps := [], NextID := (0 : Int), Frame := (0 : Int) : World_ },
  (8 : Int))
  else
  Rx.Bind (world_Clone w0) fun (r860 : World_) =>
  Let (↑r860.Joints.length : Int) fun (x861 : Int) =>
  LOOP
  (fun (rec862 : List Int × Int → Option (World_ × Int)) (s863 : List Int × Int) =>
  Let (decide (s863.snd < x861)) fun (x864 : Bool) =>
  if x864 = true then
  Join (fun (v865 : List Int) => Let (IntKind.i64.wrap (s863.snd + (1 : Int))) fun (x866 : Int) => rec862 (v865, x866))
  fun (j867 : List Int → Option (World_ × Int)) =>
  Chk ((0 : Int) ≤ s863.snd ∧ s863.snd < (↑r860.Joints.length : Int))
  (Chk ((0 : Int) ≤ s863.snd ∧ s863.snd < (↑r860.Joints.length : Int))
  (Let (ix r860.Joints s863.snd) fun (x868 : Joint) =>
  Rx.Bind (joint_Attached x868 id1) fun (r869 : Bool) =>
  if r869 = true then
  Rx.Bind (world_other x868.BodyA x868.BodyB id1) fun (r870 : Int) =>
  Chk ((List.length s863.fst + [r870].length) * (8 : Nat) ≤ (140737488355328 : Nat))
  (Let (s863.fst ++ [r870]) fun (x871 : List Int) => j867 x871)
  else j867 s863.fst))
  else
  Let (↑r860.Contacts.length : Int) fun (x872 : Int) =>
  LOOP
  (fun (rec873 : List Int × Int → Option (World_ × Int)) (s874 : List Int × Int) =>
  Let (decide (s874.snd < x872)) fun (x875 : Bool) =>
  if x875 = true then
  Join (fun (v876 : List Int) => Let (IntKind.i64.wrap (s874.snd + (1 : Int))) fun (x877 : Int) => rec873 (v876, x877))
  fun (j878 : List Int → Option (World_ × Int)) =>
  Chk ((0 : Int) ≤ s874.snd ∧ s874.snd < (↑r860.Contacts.length : Int))
  (Chk ((0 : Int) ≤ s874.snd ∧ s874.snd < (↑r860.Contacts.length : Int))
  (Let (ix r860.Contacts s874.snd) fun (x879 : Contact) =>
  Rx.Bind (world_RemoveBody_1 x879.Key id1) fun (r880 : Bool) =>
  if r880 = true then
  Rx.Bind (world_other x879.Key.BodyA x879.Key.BodyB id1) fun (r881 : Int) =>
  Chk ((List.length s874.fst + [r881].length) * (8 : Nat) ≤ (140737488355328 : Nat))
  (Let (s874.fst ++ [r881]) fun (x882 : List Int) => j878 x882)
  else j878 s874.fst))
  else
  Let (IntKind.i64.wrap (r858 + (1 : Int))) fun (x883 : Int) =>
  Let (↑r860.Bodies.length : Int) fun (x884 : Int) =>
  Chk ((0 : Int) ≤ r858 ∧ r858 ≤ x883 ∧ x883 ≤ x884 ∧ x884 ≤ (↑r860.Bodies.length : Int))
  (Let (r858 == x883) fun (x885 : Bool) =>
  if x885 = true then
  Rx.Bind (slices_IndexFunc_128 r860.Joints fun (a : Tup tb [Ix.tJoint]) => world_RemoveBody_2 a id1) fun (r886 : Int) =>
  Let (r886 == (-1 : Int)) fun (x887 : Bool) =>
  if x887 = true then
  Let (↑r860.Contacts.length : Int) fun (x888 : Int) =>
  LOOP
  (fun (rec889 : Int → Option (World_ × Int)) (s890 : Int) =>
  Let (decide (s890 < x888)) fun (x891 : Bool) =>
  if x891 = true then
  Chk ((0 : Int) ≤ s890 ∧ s890 < (↑r860.Contacts.length : Int))
  (Chk ((0 : Int) ≤ s890 ∧ s890 < (↑r860.Contacts.length : Int))
  (Let (ix r860.Contacts s890) fun (x892 : Contact) =>
  Rx.Bind (world_RemoveBody_1 x892.Key id1) fun (r893 : Bool) =>
  if r893 = true then
  Let (s890 == (-1 : Int)) fun (x894 : Bool) =>
  if x894 = true then
  Rx.Bind (slices_IndexFunc_130 r860.Overlaps fun (a : Tup tb [Ix.tPairKey]) => world_RemoveBody_1 a id1)
  fun (r895 : Int) =>
  Let (r895 == (-1 : Int)) fun (x896 : Bool) =>
  if x896 = true then Rx.Bind (world_wakeAll r860 s874.fst) fun (r897 : World_) => some (r897, (0 : Int))
  else
  Let (IntKind.i64.wrap (r895 + (1 : Int))) fun (x898 : Int) =>
  LOOP
  (fun (rec899 : Int × Int × List PairKey → Option (World_ × Int)) (s900 : Int × Int × List PairKey) =>
  Let (↑(List.length s900.snd.snd) : Int) fun (x901 : Int) =>
  Let (decide (s900.snd.fst < x901)) fun (x902 : Bool) =>
  if x902 = true then
  Join
  (fun (v903 : Int × List PairKey) =>
  Let (IntKind.i64.wrap (s900.snd.fst + (1 : Int))) fun (x904 : Int) => rec899 (v903.fst, x904, v903.snd))
  fun (j905 : Int × List PairKey → Option (World_ × Int)) =>
  Chk ((0 : Int) ≤ s900.snd.fst ∧ s900.snd.fst < (↑(List.length s900.snd.snd) : Int))
  (Chk ((0 : Int) ≤ s900.snd.fst ∧ s900.snd.fst < (↑(List.length s900.snd.snd) : Int))
  (Let (ix s900.snd.snd s900.snd.fst) fun (x906 : PairKey) =>
  Rx.Bind (world_RemoveBody_1 x906 id1) fun (r907 : Bool) =>
  Let (!r907) fun (x908 : Bool) =>
  if x908 = true then
  Chk ((0 : Int) ≤ s900.fst ∧ s900.fst < (↑(List.length s900.snd.snd) : Int))
  (Chk ((0 : Int) ≤ s900.fst ∧ s900.fst < (↑(List.length s900.snd.snd) : Int))
  (Let (List.set s900.snd.snd (Int.toNat s900.fst) x906) fun (x909 : List PairKey) =>
  Let (IntKind.i64.wrap (s900.fst + (1 : Int))) fun (x910 : Int) => j905 (x910, x909)))
  else j905 (s900.fst, s900.snd.snd)))
  else
  Chk
  ((0 : Int) ≤ (some s900.fst).getD (0 : Int) ∧
  (0 : Int) ≤ none.getD (0 : Int) ∧
  Int.toNat s900.fst ≤ List.length s900.snd.snd ∧ List.length s900.snd.snd ≤ List.length s900.snd.snd)
  (Chk
  (Int.toNat s900.fst + (List.length s900.snd.snd - Int.toNat s900.fst) ≤ List.length s900.snd.snd ∧
  (0 : Nat) < List.length s900.snd.snd - Int.toNat s900.fst)
  (Let
  (List.take (Int.toNat s900.fst) s900.snd.snd ++
  List.replicate (List.length s900.snd.snd - Int.toNat s900.fst)
  { BodyA := (0 : Int), FixtureA := (0 : Int), BodyB := (0 : Int), FixtureB := (0 : Int) : PairKey } ++
  List.drop (Int.toNat s900.fst + (List.length s900.snd.snd - Int.toNat s900.fst)) s900.snd.snd)
  fun (x911 : List PairKey) =>
  Chk
  ((0 : Int) ≤ none.getD (0 : Int) ∧
  (0 : Int) ≤ (some s900.fst).getD (0 : Int) ∧ (0 : Nat) ≤ Int.toNat s900.fst ∧ Int.toNat s900.fst ≤ x911.length)
  (Chk (Int.toNat s900.fst - (0 : Nat) ≤ x911.length)
  (Let (List.take (Int.toNat s900.fst - (0 : Nat)) x911) fun (x912 : List PairKey) =>
  Rx.Bind
  (world_wakeAll
  { Settings := r860.Settings, Bodies := r860.Bodies, Joints := r860.Joints, Contacts := r860.Contacts, Overlaps := x912, NextID := r860.NextID, Frame := r860.Frame : World_ }
  s874.fst)
  fun (r913 : World_) => some (r913, (0 : Int)))))))
  fuel (r895, x898, r860.Overlaps)
  else
  Let (IntKind.i64.wrap (s890 + (1 : Int))) fun (x914 : Int) =>
  LOOP
  (fun (rec915 : Int × Int × List Contact → Option (World_ × Int)) (s916 : Int × Int × List Contact) =>
  Let (↑(List.length s916.snd.snd) : Int) fun (x917 : Int) =>
  Let (decide (s916.snd.fst < x917)) fun (x918 : Bool) =>
  if x918 = true then
  Join
  (fun (v919 : Int × List Contact) =>
  Let (IntKind.i64.wrap (s916.snd.fst + (1 : Int))) fun (x920 : Int) => rec915 (v919.fst, x920, v919.snd))
  fun (j921 : Int × List Contact → Option (World_ × Int)) =>
  Chk ((0 : Int) ≤ s916.snd.fst ∧ s916.snd.fst < (↑(List.length s916.snd.snd) : Int))
  (Chk ((0 : Int) ≤ s916.snd.fst ∧ s916.snd.fst < (↑(List.length s916.snd.snd) : Int))
  (Let (ix s916.snd.snd s916.snd.fst) fun (x922 : Contact) =>
  Rx.Bind (world_RemoveBody_1 x922.Key id1) fun (r923 : Bool) =>
  Let (!r923) fun (x924 : Bool) =>
  if x924 = true then
  Chk ((0 : Int) ≤ s916.fst ∧ s916.fst < (↑(List.length s916.snd.snd) : Int))
  (Chk ((0 : Int) ≤ s916.fst ∧ s916.fst < (↑(List.length s916.snd.snd) : Int))
  (Let (List.set s916.snd.snd (Int.toNat s916.fst) x922) fun (x925 : List Contact) =>
  Let (IntKind.i64.wrap (s916.fst + (1 : Int))) fun (x926 : Int) => j921 (x926, x925)))
  else j921 (s916.fst, s916.snd.snd)))
  else
  Chk
  ((0 : Int) ≤ (some s916.fst).getD (0 : Int) ∧
  (0 : Int) ≤ none.getD (0 : Int) ∧
  Int.toNat s916.fst ≤ List.length s916.snd.snd ∧ List.length s916.snd.snd ≤ List.length s916.snd.snd)
  (Chk
  (Int.toNat s916.fst + (List.length s916.snd.snd - Int.toNat s916.fst) ≤ List.length s916.snd.snd ∧
  (0 : Nat) < List.length s916.snd.snd - Int.toNat s916.fst)
  (Let
  (List.take (Int.toNat s916.fst) s916.snd.snd ++
  List.replicate (List.length s916.snd.snd - Int.toNat s916.fst)
  { Key := { BodyA := (0 : Int), FixtureA := (0 : Int), BodyB := (0 : Int), FixtureB := (0 : Int) : PairKey }, Manifold := { Normal := { X := (0 : Int), Y := (0 : Int) : Vec }, Points := [] : Manifold } : Contact } ++
  List.drop (Int.toNat s916.fst + (List.length s916.snd.snd - Int.toNat s916.fst)) s916.snd.snd)
  fun (x927 : List Contact) =>
  Chk
  ((0 : Int) ≤ none.getD (0 : Int) ∧
  (0 : Int) ≤ (some s916.fst).getD (0 : Int) ∧ (0 : Nat) ≤ Int.toNat s916.fst ∧ Int.toNat s916.fst ≤ x927.length)
  (Chk (Int.toNat s916.fst - (0 : Nat) ≤ x927.length)
  (Let (List.take (Int.toNat s916.fst - (0 : Nat)) x927) fun (x928 : List Contact) =>
  Rx.Bind (slices_IndexFunc_130 r860.Overlaps fun (a : Tup tb [Ix.tPairKey]) => world_RemoveBody_1 a id1)
  fun (r929 : Int) =>
  Let (r929 == (-1 : Int)) fun (x930 : Bool) =>
  if x930 = true then
  Rx.Bind
  (world_wakeAll
  { Settings := r860.Settings, Bodies := r860.Bodies, Joints := r860.Joints, Contacts := x928, Overlaps := r860.Overlaps, NextID := r860.NextID, Frame := r860.Frame : World_ }
  s874.fst)
  fun (r931 : World_) => some (r931, (0 : Int))
  else
  Let (IntKind.i64.wrap (r929 + (1 : Int))) fun (x932 : Int) =>
  LOOP
  (fun (rec933 : Int × Int × List PairKey → Option (World_ × Int)) (s934 : Int × Int × List PairKey) =>
  Let (↑(List.length s934.snd.snd) : Int) fun (x935 : Int) =>
  Let (decide (s934.snd.fst < x935)) fun (x936 : Bool) =>
  if x936 = true then
  Join
  (fun (v937 : Int × List PairKey) =>
  Let (IntKind.i64.wrap (s934.snd.fst + (1 : Int))) fun (x938 : Int) => rec933 (v937.fst, x938, v937.snd))
  fun (j939 : Int × List PairKey → Option (World_ × Int)) =>
  Chk ((0 : Int) ≤ s934.snd.fst ∧ s934.snd.fst < (↑(List.length s934.snd.snd) : Int))
  (Chk ((0 : Int) ≤ s934.snd.fst ∧ s934.snd.fst < (↑(List.length s934.snd.snd) : Int))
  (Let (ix s934.snd.snd s934.snd.fst) fun (x940 : PairKey) =>
  Rx.Bind (world_RemoveBody_1 x940 id1) fun (r941 : Bool) =>
  Let (!r941) fun (x942 : Bool) =>
  if x942 = true then
  Chk ((0 : Int) ≤ s934.fst ∧ s934.fst < (↑(List.length s934.snd.snd) : Int))
  (Chk ((0 : Int) ≤ s934.fst ∧ s934.fst < (↑(List.length s934.snd.snd) : Int))
  (Let (List.set s934.snd.snd (Int.toNat s934.fst) x940) fun (x943 : List PairKey) =>
  Let (IntKind.i64.wrap (s934.fst + (1 : Int))) fun (x944 : Int) => j939 (x944, x943)))
  else j939 (s934.fst, s934.snd.snd)))
  else
  Chk
  ((0 : Int) ≤ (some s934.fst).getD (0 : Int) ∧
  (0 : Int) ≤ none.getD (0 : Int) ∧
  Int.toNat s934.fst ≤ List.length s934.snd.snd ∧ List.length s934.snd.snd ≤ List.length s934.snd.snd)
  (Chk
  (Int.toNat s934.fst + (List.length s934.snd.snd - Int.toNat s934.fst) ≤ List.length s934.snd.snd ∧
  (0 : Nat) < List.length s934.snd.snd - Int.toNat s934.fst)
  (Let
  (List.take (Int.toNat s934.fst) s934.snd.snd ++
  List.replicate (List.length s934.snd.snd - Int.toNat s934.fst)
  { BodyA := (0 : Int), FixtureA := (0 : Int), BodyB := (0 : Int), FixtureB := (0 : Int) : PairKey } ++
  List.drop (Int.toNat s934.fst + (List.length s934.snd.snd - Int.toNat s934.fst)) s934.snd.snd)
  fun (x945 : List PairKey) =>
  Chk
  ((0 : Int) ≤ none.getD (0 : Int) ∧
  (0 : Int) ≤ (some s934.fst).getD (0 : Int) ∧ (0 : Nat) ≤ Int.toNat s934.fst ∧ Int.toNat s934.fst ≤ x945.length)
  (Chk (Int.toNat s934.fst - (0 : Nat) ≤ x945.length)
  (Let (List.take (Int.toNat s934.fst - (0 : Nat)) x945) fun (x946 : List PairKey) =>
  Rx.Bind
  (world_wakeAll
  { Settings := r860.Settings, Bodies := r860.Bodies, Joints := r860.Joints, Contacts := x928, Overlaps := x946, NextID := r860.NextID, Frame := r860.Frame : World_ }
  s874.fst)
  fun (r947 : World_) => some (r947, (0 : Int)))))))
  fuel (r929, x932, r860.Overlaps))))))
  fuel (s890, x914, r860.Contacts)
  else Let (IntKind.i64.wrap (s890 + (1 : Int))) fun (x948 : Int) => rec889 x948))
  else
  Rx.Bind (slices_IndexFunc_130 r860.Overlaps fun (a : Tup tb [Ix.tPairKey]) => world_RemoveBody_1 a id1)
  fun (r949 : Int) =>
  Let (r949 == (-1 : Int)) fun (x950 : Bool) =>
  if x950 = true then Rx.Bind (world_wakeAll r860 s874.fst) fun (r951 : World_) => some (r951, (0 : Int))
  else
  Let (IntKind.i64.wrap (r949 + (1 : Int))) fun (x952 : Int) =>
  LOOP
  (fun (rec953 : Int × Int × List PairKey → Option (World_ × Int)) (s954 : Int × Int × List PairKey) =>
  Let (↑(List.length s954.snd.snd) : Int) fun (x955 : Int) =>
  Let (decide (s954.snd.fst < x955)) fun (x956 : Bool) =>
  if x956 = true then
  Join
  (fun (v957 : Int × List PairKey) =>
  Let (IntKind.i64.wrap (s954.snd.fst + (1 : Int))) fun (x958 : Int) => rec953 (v957.fst, x958, v957.snd))
  fun (j959 : Int × List PairKey → Option (World_ × Int)) =>
  Chk ((0 : Int) ≤ s954.snd.fst ∧ s954.snd.fst < (↑(List.length s954.snd.snd) : Int))
  (Chk ((0 : Int) ≤ s954.snd.fst ∧ s954.snd.fst < (↑(List.length s954.snd.snd) : Int))
  (Let (ix s954.snd.snd s954.snd.fst) fun (x960 : PairKey) =>
  Rx.Bind (world_RemoveBody_1 x960 id1) fun (r961 : Bool) =>
  Let (!r961) fun (x962 : Bool) =>
  if x962 = true then
  Chk ((0 : Int) ≤ s954.fst ∧ s954.fst < (↑(List.length s954.snd.snd) : Int))
  (Chk ((0 : Int) ≤ s954.fst ∧ s954.fst < (↑(List.length s954.snd.snd) : Int))
  (Let (List.set s954.snd.snd (Int.toNat s954.fst) x960) fun (x963 : List PairKey) =>
  Let (IntKind.i64.wrap (s954.fst + (1 : Int))) fun (x964 : Int) => j959 (x964, x963)))
  else j959 (s954.fst, s954.snd.snd)))
  else
  Chk
  ((0 : Int) ≤ (some s954.fst).getD (0 : Int) ∧
  (0 : Int) ≤ none.getD (0 : Int) ∧
  Int.toNat s954.fst ≤ List.length s954.snd.snd ∧ List.length s954.snd.snd ≤ List.length s954.snd.snd)
  (Chk
  (Int.toNat s954.fst + (List.length s954.snd.snd - Int.toNat s954.fst) ≤ List.length s954.snd.snd ∧
  (0 : Nat) < List.length s954.snd.snd - Int.toNat s954.fst)
  (Let
  (List.take (Int.toNat s954.fst) s954.snd.snd ++
  List.replicate (List.length s954.snd.snd - Int.toNat s954.fst)
  { BodyA := (0 : Int), FixtureA := (0 : Int), BodyB := (0 : Int), FixtureB := (0 : Int) : PairKey } ++
  List.drop (Int.toNat s954.fst + (List.length s954.snd.snd - Int.toNat s954.fst)) s954.snd.snd)
  fun (x965 : List PairKey) =>
  Chk
  ((0 : Int) ≤ none.getD (0 : Int) ∧
  (0 : Int) ≤ (some s954.fst).getD (0 : Int) ∧ (0 : Nat) ≤ Int.toNat s954.fst ∧ Int.toNat s954.fst ≤ x965.length)
  (Chk (Int.toNat s954.fst - (0 : Nat) ≤ x965.length)
  (Let (List.take (Int.toNat s954.fst - (0 : Nat)) x965) fun (x966 : List PairKey) =>
  Rx.Bind
  (world_wakeAll
  { Settings := r860.Settings, Bodies := r860.Bodies, Joints := r860.Joints, Contacts := r860.Contacts, Overlaps := x966, NextID := r860.NextID, Frame := r860.Frame : World_ }
  s874.fst)
  fun (r967 : World_) => some (r967, (0 : Int)))))))
  fuel (r949, x952, r860.Overlaps))
  fuel (0 : Int)
  else
  Let (IntKind.i64.wrap (r886 + (1 : Int))) fun (x968 : Int) =>
  LOOP
  (fun (rec969 : Int × Int × List Joint → Option (World_ × Int)) (s970 : Int × Int × List Joint) =>
  Let (↑(List.length s970.snd.snd) : Int) fun (x971 : Int) =>
  Let (decide (s970.snd.fst < x971)) fun (x972 : Bool) =>
  if x972 = true then
  Join
  (fun (v973 : Int × List Joint) =>
  Let (IntKind.i64.wrap (s970.snd.fst + (1 : Int))) fun (x974 : Int) => rec969 (v973.fst, x974, v973.snd))
  fun (j975 : Int × List Joint → Option (World_ × Int)) =>
  Chk ((0 : Int) ≤ s970.snd.fst ∧ s970.snd.fst < (↑(List.length s970.snd.snd) : Int))
  (Chk ((0 : Int) ≤ s970.snd.fst ∧ s970.snd.fst < (↑(List.length s970.snd.snd) : Int))
  (Let (ix s970.snd.snd s970.snd.fst) fun (x976 : Joint) =>
  Rx.Bind (world_RemoveBody_2 x976 id1) fun (r977 : Bool) =>
  Let (!r977) fun (x978 : Bool) =>
  if x978 = true then
  Chk ((0 : Int) ≤ s970.fst ∧ s970.fst < (↑(List.length s970.snd.snd) : Int))
  (Chk ((0 : Int) ≤ s970.fst ∧ s970.fst < (↑(List.length s970.snd.snd) : Int))
  (Let (List.set s970.snd.snd (Int.toNat s970.fst) x976) fun (x979 : List Joint) =>
  Let (IntKind.i64.wrap (s970.fst + (1 : Int))) fun (x980 : Int) => j975 (x980, x979)))
  else j975 (s970.fst, s970.snd.snd)))
  else
  Chk
  ((0 : Int) ≤ (some s970.fst).getD (0 : Int) ∧
  (0 : Int) ≤ none.getD (0 : Int) ∧
  Int.toNat s970.fst ≤ List.length s970.snd.snd ∧ List.length s970.snd.snd ≤ List.length s970.snd.snd)
  (Chk
  (Int.toNat s970.fst + (List.length s970.snd.snd - Int.toNat s970.fst) ≤ List.length s970.snd.snd ∧
  (0 : Nat) < List.length s970.snd.snd - Int.toNat s970.fst)
  (Let
  (List.take (Int.toNat s970.fst) s970.snd.snd ++
  List.replicate (List.length s970.snd.snd - Int.toNat s970.fst)
  { ID := (0 : Int), Kind := (0 : Int), BodyA := (0 : Int), BodyB := (0 : Int), AnchorA := { X := (0 : Int), Y := (0 : Int) : Vec }, AnchorB := { X := (0 : Int), Y := (0 : Int) : Vec }, Axis := { X := (0 : Int), Y := (0 : Int) : Vec }, ReferenceAngle := (0 : Int), EnableLimit := false, Lower := (0 : Int), Upper := (0 : Int), EnableMotor := false, MotorSpeed := (0 : Int), MaxForce := (0 : Int), Softness := (0 : Int), BreakForce := (0 : Int), CollideConnected := false, Impulses := ((0 : Int), (0 : Int), (0 : Int), (0 : Int)) : Joint } ++
  List.drop (Int.toNat s970.fst + (List.length s970.snd.snd - Int.toNat s970.fst)) s970.snd.snd)
  fun (x981 : List Joint) =>
  Chk
  ((0 : Int) ≤ none.getD (0 : Int) ∧
  (0 : Int) ≤ (some s970.fst).getD (0 : Int) ∧ (0 : Nat) ≤ Int.toNat s970.fst ∧ Int.toNat s970.fst ≤ x981.length)
  (Chk (Int.toNat s970.fst - (0 : Nat) ≤ x981.length)
  (Let (List.take (Int.toNat s970.fst - (0 : Nat)) x981) fun (x982 : List Joint) =>
  Let (↑r860.Contacts.length : Int) fun (x983 : Int) =>
  LOOP
  (fun (rec984 : Int → Option (World_ × Int)) (s985 : Int) =>
  Let (decide (s985 < x983)) fun (x986 : Bool) =>
  if x986 = true then
  Chk ((0 : Int) ≤ s985 ∧ s985 < (↑r860.Contacts.length : Int))
  (Chk ((0 : Int) ≤ s985 ∧ s985 < (↑r860.Contacts.length : Int))
  (Let (ix r860.Contacts s985) fun (x987 : Contact) =>
  Rx.Bind (world_RemoveBody_1 x987.Key id1) fun (r988 : Bool) =>
  if r988 = true then
  Let (s985 == (-1 : Int)) fun (x989 : Bool) =>
  if x989 = true then
  Rx.Bind (slices_IndexFunc_130 r860.Overlaps fun (a : Tup tb [Ix.tPairKey]) => world_RemoveBody_1 a id1)
  fun (r990 : Int) =>
  Let (r990 == (-1 : Int)) fun (x991 : Bool) =>
  if x991 = true then
  Rx.Bind
  (world_wakeAll
  { Settings := r860.Settings, Bodies := r860.Bodies, Joints := x982, Contacts := r860.Contacts, Overlaps := r860.Overlaps, NextID := r860.NextID, Frame := r860.Frame : World_ }
  s874.fst)
  fun (r992 : World_) => some (r992, (0 : Int))
  else
  Let (IntKind.i64.wrap (r990 + (1 : Int))) fun (x993 : Int) =>
  LOOP
  (fun (rec994 : Int × Int × List PairKey → Option (World_ × Int)) (s995 : Int × Int × List PairKey) =>
  Let (↑(List.length s995.snd.snd) : Int) fun (x996 : Int) =>
  Let (decide (s995.snd.fst < x996)) fun (x997 : Bool) =>
  if x997 = true then
  Join
  (fun (v998 : Int × List PairKey) =>
  Let (IntKind.i64.wrap (s995.snd.fst + (1 : Int))) fun (x999 : Int) => rec994 (v998.fst, x999, v998.snd))
  fun (j1000 : Int × List PairKey → Option (World_ × Int)) =>
  Chk ((0 : Int) ≤ s995.snd.fst ∧ s995.snd.fst < (↑(List.length s995.snd.snd) : Int))
  (Chk ((0 : Int) ≤ s995.snd.fst ∧ s995.snd.fst < (↑(List.length s995.snd.snd) : Int))
  (Let (ix s995.snd.snd s995.snd.fst) fun (x1001 : PairKey) =>
  Rx.Bind (world_RemoveBody_1 x1001 id1) fun (r1002 : Bool) =>
  Let (!r1002) fun (x1003 : Bool) =>
  if x1003 = true then
  Chk ((0 : Int) ≤ s995.fst ∧ s995.fst < (↑(List.length s995.snd.snd) : Int))
  (Chk ((0 : Int) ≤ s995.fst ∧ s995.fst < (↑(List.length s995.snd.snd) : Int))
  (Let (List.set s995.snd.snd (Int.toNat s995.fst) x1001) fun (x1004 : List PairKey) =>
  Let (IntKind.i64.wrap (s995.fst + (1 : Int))) fun (x1005 : Int) => j1000 (x1005, x1004)))
  else j1000 (s995.fst, s995.snd.snd)))
  else
  Chk
  ((0 : Int) ≤ (some s995.fst).getD (0 : Int) ∧
  (0 : Int) ≤ none.getD (0 : Int) ∧
  Int.toNat s995.fst ≤ List.length s995.snd.snd ∧ List.length s995.snd.snd ≤ List.length s995.snd.snd)
  (Chk
  (Int.toNat s995.fst + (List.length s995.snd.snd - Int.toNat s995.fst) ≤ List.length s995.snd.snd ∧
  (0 : Nat) < List.length s995.snd.snd - Int.toNat s995.fst)
  (Let
  (List.take (Int.toNat s995.fst) s995.snd.snd ++
  List.replicate (List.length s995.snd.snd - Int.toNat s995.fst)
  { BodyA := (0 : Int), FixtureA := (0 : Int), BodyB := (0 : Int), FixtureB := (0 : Int) : PairKey } ++
  List.drop (Int.toNat s995.fst + (List.length s995.snd.snd - Int.toNat s995.fst)) s995.snd.snd)
  fun (x1006 : List PairKey) =>
  Chk
  ((0 : Int) ≤ none.getD (0 : Int) ∧
  (0 : Int) ≤ (some s995.fst).getD (0 : Int) ∧ (0 : Nat) ≤ Int.toNat s995.fst ∧ Int.toNat s995.fst ≤ x1006.length)
  (Chk (Int.toNat s995.fst - (0 : Nat) ≤ x1006.length)
  (Let (List.take (Int.toNat s995.fst - (0 : Nat)) x1006) fun (x1007 : List PairKey) =>
  Rx.Bind
  (world_wakeAll
  { Settings := r860.Settings, Bodies := r860.Bodies, Joints := x982, Contacts := r860.Contacts, Overlaps := x1007, NextID := r860.NextID, Frame := r860.Frame : World_ }
  s874.fst)
  fun (r1008 : World_) => some (r1008, (0 : Int)))))))
  fuel (r990, x993, r860.Overlaps)
  else
  Let (IntKind.i64.wrap (s985 + (1 : Int))) fun (x1009 : Int) =>
  LOOP
  (fun (rec1010 : Int × Int × List Contact → Option (World_ × Int)) (s1011 : Int × Int × List Contact) =>
  Let (↑(List.length s1011.snd.snd) : Int) fun (x1012 : Int) =>
  Let (decide (s1011.snd.fst < x1012)) fun (x1013 : Bool) =>
  if x1013 = true then
  Join
  (fun (v1014 : Int × List Contact) =>
  Let (IntKind.i64.wrap (s1011.snd.fst + (1 : Int))) fun (x1015 : Int) => rec1010 (v1014.fst, x1015, v1014.snd))
  fun (j1016 : Int × List Contact → Option (World_ × Int)) =>
  Chk ((0 : Int) ≤ s1011.snd.fst ∧ s1011.snd.fst < (↑(List.length s1011.snd.snd) : Int))
  (Chk ((0 : Int) ≤ s1011.snd.fst ∧ s1011.snd.fst < (↑(List.length s1011.snd.snd) : Int))
  (Let (ix s1011.snd.snd s1011.snd.fst) fun (x1017 : Contact) =>
  Rx.Bind (world_RemoveBody_1 x1017.Key id1) fun (r1018 : Bool) =>
  Let (!r1018) fun (x1019 : Bool) =>
  if x1019 = true then
  Chk ((0 : Int) ≤ s1011.fst ∧ s1011.fst < (↑(List.length s1011.snd.snd) : Int))
  (Chk ((0 : Int) ≤ s1011.fst ∧ s1011.fst < (↑(List.length s1011.snd.snd) : Int))
  (Let (List.set s1011.snd.snd (Int.toNat s1011.fst) x1017) fun (x1020 : List Contact) =>
  Let (IntKind.i64.wrap (s1011.fst + (1 : Int))) fun (x1021 : Int) => j1016 (x1021, x1020)))
  else j1016 (s1011.fst, s1011.snd.snd)))
  else
  Chk
  ((0 : Int) ≤ (some s1011.fst).getD (0 : Int) ∧
  (0 : Int) ≤ none.getD (0 : Int) ∧
  Int.toNat s1011.fst ≤ List.length s1011.snd.snd ∧ List.length s1011.snd.snd ≤ List.length s1011.snd.snd)
  (Chk
  (Int.toNat s1011.fst + (List.length s1011.snd.snd - Int.toNat s1011.fst) ≤ List.length s1011.snd.snd ∧
  (0 : Nat) < List.length s1011.snd.snd - Int.toNat s1011.fst)
  (Let
  (List.take (Int.toNat s1011.fst) s1011.snd.snd ++
  List.replicate (List.length s1011.snd.snd - Int.toNat s1011.fst)
  { Key := { BodyA := (0 : Int), FixtureA := (0 : Int), BodyB := (0 : Int), FixtureB := (0 : Int) : PairKey }, Manifold := { Normal := { X := (0 : Int), Y := (0 : Int) : Vec }, Points := [] : Manifold } : Contact } ++
  List.drop (Int.toNat s1011.fst + (List.length s1011.snd.snd - Int.toNat s1011.fst)) s1011.snd.snd)
  fun (x1022 : List Contact) =>
  Chk
  ((0 : Int) ≤ none.getD (0 : Int) ∧
  (0 : Int) ≤ (some s1011.fst).getD (0 : Int) ∧ (0 : Nat) ≤ Int.toNat s1011.fst ∧ Int.toNat s1011.fst ≤ x1022.length)
  (Chk (Int.toNat s1011.fst - (0 : Nat) ≤ x1022.length)
  (Let (List.take (Int.toNat s1011.fst - (0 : Nat)) x1022) fun (x1023 : List Contact) =>
  Rx.Bind (slices_IndexFunc_130 r860.Overlaps fun (a : Tup tb [Ix.tPairKey]) => world_RemoveBody_1 a id1)
  fun (r1024 : Int) =>
  Let (r1024 == (-1 : Int)) fun (x1025 : Bool) =>
  if x1025 = true then
  Rx.Bind
  (world_wakeAll
  { Settings := r860.Settings, Bodies := r860.Bodies, Joints := x982, Contacts := x1023, Overlaps := r860.Overlaps, NextID := r860.NextID, Frame := r860.Frame : World_ }
  s874.fst)
  fun (r1026 : World_) => some (r1026, (0 : Int))
  else
  Let (IntKind.i64.wrap (r1024 + (1 : Int))) fun (x1027 : Int) =>
  LOOP
  (fun (rec1028 : Int × Int × List PairKey → Option (World_ × Int)) (s1029 : Int × Int × List PairKey) =>
  Let (↑(List.length s1029.snd.snd) : Int) fun (x1030 : Int) =>
  Let (decide (s1029.snd.fst < x1030)) fun (x1031 : Bool) =>
  if x1031 = true then
  Join
  (fun (v1032 : Int × List PairKey) =>
  Let (IntKind.i64.wrap (s1029.snd.fst + (1 : Int))) fun (x1033 : Int) => rec1028 (v1032.fst, x1033, v1032.snd))
  fun (j1034 : Int × List PairKey → Option (World_ × Int)) =>
  Chk ((0 : Int) ≤ s1029.snd.fst ∧ s1029.snd.fst < (↑(List.length s1029.snd.snd) : Int))
  (Chk ((0 : Int) ≤ s1029.snd.fst ∧ s1029.snd.fst < (↑(List.length s1029.snd.snd) : Int))
  (Let (ix s1029.snd.snd s1029.snd.fst) fun (x1035 : PairKey) =>
  Rx.Bind (world_RemoveBody_1 x1035 id1) fun (r1036 : Bool) =>
  Let (!r1036) fun (x1037 : Bool) =>
  if x1037 = true then
  Chk ((0 : Int) ≤ s1029.fst ∧ s1029.fst < (↑(List.length s1029.snd.snd) : Int))
  (Chk ((0 : Int) ≤ s1029.fst ∧ s1029.fst < (↑(List.length s1029.snd.snd) : Int))
  (Let (List.set s1029.snd.snd (Int.toNat s1029.fst) x1035) fun (x1038 : List PairKey) =>
  Let (IntKind.i64.wrap (s1029.fst + (1 : Int))) fun (x1039 : Int) => j1034 (x1039, x1038)))
  else j1034 (s1029.fst, s1029.snd.snd)))
  else
  Chk
  ((0 : Int) ≤ (some s1029.fst).getD (0 : Int) ∧
  (0 : Int) ≤ none.getD (0 : Int) ∧
  Int.toNat s1029.fst ≤ List.length s1029.snd.snd ∧ List.length s1029.snd.snd ≤ List.length s1029.snd.snd)
  (Chk
  (Int.toNat s1029.fst + (List.length s1029.snd.snd - Int.toNat s1029.fst) ≤ List.length s1029.snd.snd ∧
  (0 : Nat) < List.length s1029.snd.snd - Int.toNat s1029.fst)
  (Let
  (List.take (Int.toNat s1029.fst) s1029.snd.snd ++
  List.replicate (List.length s1029.snd.snd - Int.toNat s1029.fst)
  { BodyA := (0 : Int), FixtureA := (0 : Int), BodyB := (0 : Int), FixtureB := (0 : Int) : PairKey } ++
  List.drop (Int.toNat s1029.fst + (List.length s1029.snd.snd - Int.toNat s1029.fst)) s1029.snd.snd)
  fun (x1040 : List PairKey) =>
  Chk
  ((0 : Int) ≤ none.getD (0 : Int) ∧
  (0 : Int) ≤ (some s1029.fst).getD (0 : Int) ∧ (0 : Nat) ≤ Int.toNat s1029.fst ∧ Int.toNat s1029.fst ≤ x1040.length)
  (Chk (Int.toNat s1029.fst - (0 : Nat) ≤ x1040.length)
  (Let (List.take (Int.toNat s1029.fst - (0 : Nat)) x1040) fun (x1041 : List PairKey) =>
  Rx.Bind
  (world_wakeAll
  { Settings := r860.Settings, Bodies := r860.Bodies, Joints := x982, Contacts := x1023, Overlaps := x1041, NextID := r860.NextID, Frame := r860.Frame : World_ }
  s874.fst)
  fun (r1042 : World_) => some (r1042, (0 : Int)))))))
  fuel (r1024, x1027, r860.Overlaps))))))
  fuel (s985, x1009, r860.Contacts)
  else Let (IntKind.i64.wrap (s985 + (1 : Int))) fun (x1043 : Int) => rec984 x1043))
  else
  Rx.Bind (slices_IndexFunc_130 r860.Overlaps fun (a : Tup tb [Ix.tPairKey]) => world_RemoveBody_1 a id1)
  fun (r1044 : Int) =>
  Let (r1044 == (-1 : Int)) fun (x1045 : Bool) =>
  if x1045 = true then
  Rx.Bind
  (world_wakeAll
  { Settings := r860.Settings, Bodies := r860.Bodies, Joints := x982, Contacts := r860.Contacts, Overlaps := r860.Overlaps, NextID := r860.NextID, Frame := r860.Frame : World_ }
  s874.fst)
  fun (r1046 : World_) => some (r1046, (0 : Int))
  else
  Let (IntKind.i64.wrap (r1044 + (1 : Int))) fun (x1047 : Int) =>
  LOOP
  (fun (rec1048 : Int × Int × List PairKey → Option (World_ × Int)) (s1049 : Int × Int × List PairKey) =>
  Let (↑(List.length s1049.snd.snd) : Int) fun (x1050 : Int) =>
  Let (decide (s1049.snd.fst < x1050)) fun (x1051 : Bool) =>
  if x1051 = true then
  Join
  (fun (v1052 : Int × List PairKey) =>
  Let (IntKind.i64.wrap (s1049.snd.fst + (1 : Int))) fun (x1053 : Int) => rec1048 (v1052.fst, x1053, v1052.snd))
  fun (j1054 : Int × List PairKey → Option (World_ × Int)) =>
  Chk ((0 : Int) ≤ s1049.snd.fst ∧ s1049.snd.fst < (↑(List.length s1049.snd.snd) : Int))
  (Chk ((0 : Int) ≤ s1049.snd.fst ∧ s1049.snd.fst < (↑(List.length s1049.snd.snd) : Int))
  (Let (ix s1049.snd.snd s1049.snd.fst) fun (x1055 : PairKey) =>
  Rx.Bind (world_RemoveBody_1 x1055 id1) fun (r1056 : Bool) =>
  Let (!r1056) fun (x1057 : Bool) =>
  if x1057 = true then
  Chk ((0 : Int) ≤ s1049.fst ∧ s1049.fst < (↑(List.length s1049.snd.snd) : Int))
  (Chk ((0 : Int) ≤ s1049.fst ∧ s1049.fst < (↑(List.length s1049.snd.snd) : Int))
  (Let (List.set s1049.snd.snd (Int.toNat s1049.fst) x1055) fun (x1058 : List PairKey) =>
  Let (IntKind.i64.wrap (s1049.fst + (1 : Int))) fun (x1059 : Int) => j1054 (x1059, x1058)))
  else j1054 (s1049.fst, s1049.snd.snd)))
  else
  Chk
  ((0 : Int) ≤ (some s1049.fst).getD (0 : Int) ∧
  (0 : Int) ≤ none.getD (0 : Int) ∧
  Int.toNat s1049.fst ≤ List.length s1049.snd.snd ∧ List.length s1049.snd.snd ≤ List.length s1049.snd.snd)
  (Chk
  (Int.toNat s1049.fst + (List.length s1049.snd.snd - Int.toNat s1049.fst) ≤ List.length s1049.snd.snd ∧
  (0 : Nat) < List.length s1049.snd.snd - Int.toNat s1049.fst)
  (Let
  (List.take (Int.toNat s1049.fst) s1049.snd.snd ++
  List.replicate (List.length s1049.snd.snd - Int.toNat s1049.fst)
  { BodyA := (0 : Int), FixtureA := (0 : Int), BodyB := (0 : Int), FixtureB := (0 : Int) : PairKey } ++
  List.drop (Int.toNat s1049.fst + (List.length s1049.snd.snd - Int.toNat s1049.fst)) s1049.snd.snd)
  fun (x1060 : List PairKey) =>
  Chk
  ((0 : Int) ≤ none.getD (0 : Int) ∧
  (0 : Int) ≤ (some s1049.fst).getD (0 : Int) ∧ (0 : Nat) ≤ Int.toNat s1049.fst ∧ Int.toNat s1049.fst ≤ x1060.length)
  (Chk (Int.toNat s1049.fst - (0 : Nat) ≤ x1060.length)
  (Let (List.take (Int.toNat s1049.fst - (0 : Nat)) x1060) fun (x1061 : List PairKey) =>
  Rx.Bind
  (world_wakeAll
  { Settings := r860.Settings, Bodies := r860.Bodies, Joints := x982, Contacts := r860.Contacts, Overlaps := x1061, NextID := r860.NextID, Frame := r860.Frame : World_ }
  s874.fst)
  fun (r1062 : World_) => some (r1062, (0 : Int)))))))
  fuel (r1044, x1047, r860.Overlaps))
  fuel (0 : Int))))))
  fuel (r886, x968, r860.Joints)
  else
  Let (↑r860.Bodies.length : Int) fun (x1063 : Int) =>
  Chk
  ((0 : Int) ≤ none.getD (0 : Int) ∧
  (0 : Int) ≤ (some r858).getD (0 : Int) ∧ (0 : Nat) ≤ r858.toNat ∧ r858.toNat ≤ r860.Bodies.length)
  (Chk
  ((0 : Int) ≤ (some x883).getD (0 : Int) ∧
  (0 : Int) ≤ none.getD (0 : Int) ∧ x883.toNat ≤ r860.Bodies.length ∧ r860.Bodies.length ≤ r860.Bodies.length)
  (Chk (x883.toNat + (r860.Bodies.length - x883.toNat) ≤ r860.Bodies.length)
  (Let (List.take (r860.Bodies.length - x883.toNat) (List.drop x883.toNat r860.Bodies)) fun (x1064 : List Body) =>
  Chk
  ((0 : Nat) + (r858.toNat - (0 : Nat) + x1064.length) ≤ r860.Bodies.length ∧
  r858.toNat - (0 : Nat) + x1064.length ≤ r860.Bodies.length - (0 : Nat) ∧ (0 : Nat) < r860.Bodies.length - (0 : Nat))
  (Let
  (List.take ((0 : Nat) + (r858.toNat - (0 : Nat))) r860.Bodies ++ x1064 ++
  List.drop ((0 : Nat) + (r858.toNat - (0 : Nat)) + x1064.length) r860.Bodies)
  fun (x1065 : List Body) =>
  Chk
  ((0 : Int) ≤ (some (↑(r858.toNat - (0 : Nat) + x1064.length) : Int)).getD (0 : Int) ∧
  (0 : Int) ≤ (some x1063).getD (0 : Int) ∧
  (↑(r858.toNat - (0 : Nat) + x1064.length) : Int).toNat ≤ x1063.toNat ∧
  x1063.toNat ≤ r860.Bodies.length - (0 : Nat) ∧ r858.toNat - (0 : Nat) + x1064.length ≤ r860.Bodies.length - (0 : Nat))
  (Chk
  ((0 : Nat) + (↑(r858.toNat - (0 : Nat) + x1064.length) : Int).toNat +
  (x1063.toNat - (↑(r858.toNat - (0 : Nat) + x1064.length) : Int).toNat) ≤
  x1065.length ∧
  (0 : Nat) < r860.Bodies.length - (0 : Nat) - (↑(r858.toNat - (0 : Nat) + x1064.length) : Int).toNat)
  (Let
  (List.take ((0 : Nat) + (↑(r858.toNat - (0 : Nat) + x1064.length) : Int).toNat) x1065 ++
  List.replicate (x1063.toNat - (↑(r858.toNat - (0 : Nat) + x1064.length) : Int).toNat)
  { ID := (0 : Int), Kind := (0 : Int), Transform := { Position := { X := (0 : Int), Y := (0 : Int) : Vec }, Angle := (0 : Int) : Transform }, Velocity := { X := (0 : Int), Y := (0 : Int) : Vec }, AngularVelocity := (0 : Int), Force := { X := (0 : Int), Y := (0 : Int) : Vec }, Torque := (0 : Int), LinearDamping := (0 : Int), AngularDamping := (0 : Int), GravityScale := (0 : Int), Bullet := false, FixedRotation := false, NoSleep := false, Asleep := false, IdleSteps := (0 : Int), Fixtures := [] : Body } ++
  List.drop
  ((0 : Nat) + (↑(r858.toNat - (0 : Nat) + x1064.length) : Int).toNat +
  (x1063.toNat - (↑(r858.toNat - (0 : Nat) + x1064.length) : Int).toNat))
  x1065)
  fun (x1066 : List Body) =>
  Chk (r858.toNat - (0 : Nat) + x1064.length ≤ x1066.length)
  (Let (List.take (r858.toNat - (0 : Nat) + x1064.length) x1066) fun (x1067 : List Body) =>
  Rx.Bind (slices_IndexFunc_128 r860.Joints fun (a : Tup tb [Ix.tJoint]) => world_RemoveBody_2 a id1) fun (r1068 : Int) =>
  Let (r1068 == (-1 : Int)) fun (x1069 : Bool) =>
  if x1069 = true then
  Let (↑r860.Contacts.length : Int) fun (x1070 : Int) =>
  LOOP
  (fun (rec1071 : Int → Option (World_ × Int)) (s1072 : Int) =>
  Let (decide (s1072 < x1070)) fun (x1073 : Bool) =>
  if x1073 = true then
  Chk ((0 : Int) ≤ s1072 ∧ s1072 < (↑r860.Contacts.length : Int))
  (Chk ((0 : Int) ≤ s1072 ∧ s1072 < (↑r860.Contacts.length : Int))
  (Let (ix r860.Contacts s1072) fun (x1074 : Contact) =>
  Rx.Bind (world_RemoveBody_1 x1074.Key id1) fun (r1075 : Bool) =>
  if r1075 = true then
  Let (s1072 == (-1 : Int)) fun (x1076 : Bool) =>
  if x1076 = true then
  Rx.Bind (slices_IndexFunc_130 r860.Overlaps fun (a : Tup tb [Ix.tPairKey]) => world_RemoveBody_1 a id1)
  fun (r1077 : Int) =>
  Let (r1077 == (-1 : Int)) fun (x1078 : Bool) =>
  if x1078 = true then
  Rx.Bind
  (world_wakeAll
  { Settings := r860.Settings, Bodies := x1067, Joints := r860.Joints, Contacts := r860.Contacts, Overlaps := r860.Overlaps, NextID := r860.NextID, Frame := r860.Frame : World_ }
  s874.fst)
  fun (r1079 : World_) => some (r1079, (0 : Int))
  else
  Let (IntKind.i64.wrap (r1077 + (1 : Int))) fun (x1080 : Int) =>
  LOOP
  (fun (rec1081 : Int × Int × List PairKey → Option (World_ × Int)) (s1082 : Int × Int × List PairKey) =>
  Let (↑(List.length s1082.snd.snd) : Int) fun (x1083 : Int) =>
  Let (decide (s1082.snd.fst < x1083)) fun (x1084 : Bool) =>
  if x1084 = true then
  Join
  (fun (v1085 : Int × List PairKey) =>
  Let (IntKind.i64.wrap (s1082.snd.fst + (1 : Int))) fun (x1086 : Int) => rec1081 (v1085.fst, x1086, v1085.snd))
  fun (j1087 : Int × List PairKey → Option (World_ × Int)) =>
  Chk ((0 : Int) ≤ s1082.snd.fst ∧ s1082.snd.fst < (↑(List.length s1082.snd.snd) : Int))
  (Chk ((0 : Int) ≤ s1082.snd.fst ∧ s1082.snd.fst < (↑(List.length s1082.snd.snd) : Int))
  (Let (ix s1082.snd.snd s1082.snd.fst) fun (x1088 : PairKey) =>
  Rx.Bind (world_RemoveBody_1 x1088 id1) fun (r1089 : Bool) =>
  Let (!r1089) fun (x1090 : Bool) =>
  if x1090 = true then
  Chk ((0 : Int) ≤ s1082.fst ∧ s1082.fst < (↑(List.length s1082.snd.snd) : Int))
  (Chk ((0 : Int) ≤ s1082.fst ∧ s1082.fst < (↑(List.length s1082.snd.snd) : Int))
  (Let (List.set s1082.snd.snd (Int.toNat s1082.fst) x1088) fun (x1091 : List PairKey) =>
  Let (IntKind.i64.wrap (s1082.fst + (1 : Int))) fun (x1092 : Int) => j1087 (x1092, x1091)))
  else j1087 (s1082.fst, s1082.snd.snd)))
  else
  Chk
  ((0 : Int) ≤ (some s1082.fst).getD (0 : Int) ∧
  (0 : Int) ≤ none.getD (0 : Int) ∧
  Int.toNat s1082.fst ≤ List.length s1082.snd.snd ∧ List.length s1082.snd.snd ≤ List.length s1082.snd.snd)
  (Chk
  (Int.toNat s1082.fst + (List.length s1082.snd.snd - Int.toNat s1082.fst) ≤ List.length s1082.snd.snd ∧
  (0 : Nat) < List.length s1082.snd.snd - Int.toNat s1082.fst)
  (Let
  (List.take (Int.toNat s1082.fst) s1082.snd.snd ++
  List.replicate (List.length s1082.snd.snd - Int.toNat s1082.fst)
  { BodyA := (0 : Int), FixtureA := (0 : Int), BodyB := (0 : Int), FixtureB := (0 : Int) : PairKey } ++
  List.drop (Int.toNat s1082.fst + (List.length s1082.snd.snd - Int.toNat s1082.fst)) s1082.snd.snd)
  fun (x1093 : List PairKey) =>
  Chk
  ((0 : Int) ≤ none.getD (0 : Int) ∧
  (0 : Int) ≤ (some s1082.fst).getD (0 : Int) ∧ (0 : Nat) ≤ Int.toNat s1082.fst ∧ Int.toNat s1082.fst ≤ x1093.length)
  (Chk (Int.toNat s1082.fst - (0 : Nat) ≤ x1093.length)
  (Let (List.take (Int.toNat s1082.fst - (0 : Nat)) x1093) fun (x1094 : List PairKey) =>
  Rx.Bind
  (world_wakeAll
  { Settings := r860.Settings, Bodies := x1067, Joints := r860.Joints, Contacts := r860.Contacts, Overlaps := x1094, NextID := r860.NextID, Frame := r860.Frame : World_ }
  s874.fst)
  fun (r1095 : World_) => some (r1095, (0 : Int)))))))
  fuel (r1077, x1080, r860.Overlaps)
  else
  Let (IntKind.i64.wrap (s1072 + (1 : Int))) fun (x1096 : Int) =>
  LOOP
  (fun (rec1097 : Int × Int × List Contact → Option (World_ × Int)) (s1098 : Int × Int × List Contact) =>
  Let (↑(List.length s1098.snd.snd) : Int) fun (x1099 : Int) =>
  Let (decide (s1098.snd.fst < x1099)) fun (x1100 : Bool) =>
  if x1100 = true then
  Join
  (fun (v1101 : Int × List Contact) =>
  Let (IntKind.i64.wrap (s1098.snd.fst + (1 : Int))) fun (x1102 : Int) => rec1097 (v1101.fst, x1102, v1101.snd))
  fun (j1103 : Int × List Contact → Option (World_ × Int)) =>
  Chk ((0 : Int) ≤ s1098.snd.fst ∧ s1098.snd.fst < (↑(List.length s1098.snd.snd) : Int))
  (Chk ((0 : Int) ≤ s1098.snd.fst ∧ s1098.snd.fst < (↑(List.length s1098.snd.snd) : Int))
  (Let (ix s1098.snd.snd s1098.snd.fst) fun (x1104 : Contact) =>
  Rx.Bind (world_RemoveBody_1 x1104.Key id1) fun (r1105 : Bool) =>
  Let (!r1105) fun (x1106 : Bool) =>
  if x1106 = true then
  Chk ((0 : Int) ≤ s1098.fst ∧ s1098.fst < (↑(List.length s1098.snd.snd) : Int))
  (Chk ((0 : Int) ≤ s1098.fst ∧ s1098.fst < (↑(List.length s1098.snd.snd) : Int))
  (Let (List.set s1098.snd.snd (Int.toNat s1098.fst) x1104) fun (x1107 : List Contact) =>
  Let (IntKind.i64.wrap (s1098.fst + (1 : Int))) fun (x1108 : Int) => j1103 (x1108, x1107)))
  else j1103 (s1098.fst, s1098.snd.snd)))
  else
  Chk
  ((0 : Int) ≤ (some s1098.fst).getD (0 : Int) ∧
  (0 : Int) ≤ none.getD (0 : Int) ∧
  Int.toNat s1098.fst ≤ List.length s1098.snd.snd ∧ List.length s1098.snd.snd ≤ List.length s1098.snd.snd)
  (Chk
  (Int.toNat s1098.fst + (List.length s1098.snd.snd - Int.toNat s1098.fst) ≤ List.length s1098.snd.snd ∧
  (0 : Nat) < List.length s1098.snd.snd - Int.toNat s1098.fst)
  (Let
  (List.take (Int.toNat s1098.fst) s1098.snd.snd ++
  List.replicate (List.length s1098.snd.snd - Int.toNat s1098.fst)
  { Key := { BodyA := (0 : Int), FixtureA := (0 : Int), BodyB := (0 : Int), FixtureB := (0 : Int) : PairKey }, Manifold := { Normal := { X := (0 : Int), Y := (0 : Int) : Vec }, Points := [] : Manifold } : Contact } ++
  List.drop (Int.toNat s1098.fst + (List.length s1098.snd.snd - Int.toNat s1098.fst)) s1098.snd.snd)
  fun (x1109 : List Contact) =>
  Chk
  ((0 : Int) ≤ none.getD (0 : Int) ∧
  (0 : Int) ≤ (some s1098.fst).getD (0 : Int) ∧ (0 : Nat) ≤ Int.toNat s1098.fst ∧ Int.toNat s1098.fst ≤ x1109.length)
  (Chk (Int.toNat s1098.fst - (0 : Nat) ≤ x1109.length)
  (Let (List.take (Int.toNat s1098.fst - (0 : Nat)) x1109) fun (x1110 : List Contact) =>
  Rx.Bind (slices_IndexFunc_130 r860.Overlaps fun (a : Tup tb [Ix.tPairKey]) => world_RemoveBody_1 a id1)
  fun (r1111 : Int) =>
  Let (r1111 == (-1 : Int)) fun (x1112 : Bool) =>
  if x1112 = true then
  Rx.Bind
  (world_wakeAll
  { Settings := r860.Settings, Bodies := x1067, Joints := r860.Joints, Contacts := x1110, Overlaps := r860.Overlaps, NextID := r860.NextID, Frame := r860.Frame : World_ }
  s874.fst)
  fun (r1113 : World_) => some (r1113, (0 : Int))
  else
  Let (IntKind.i64.wrap (r1111 + (1 : Int))) fun (x1114 : Int) =>
  LOOP
  (fun (rec1115 : Int × Int × List PairKey → Option (World_ × Int)) (s1116 : Int × Int × List PairKey) =>
  Let (↑(List.length s1116.snd.snd) : Int) fun (x1117 : Int) =>
  Let (decide (s1116.snd.fst < x1117)) fun (x1118 : Bool) =>
  if x1118 = true then
  Join
  (fun (v1119 : Int × List PairKey) =>
  Let (IntKind.i64.wrap (s1116.snd.fst + (1 : Int))) fun (x1120 : Int) => rec1115 (v1119.fst, x1120, v1119.snd))
  fun (j1121 : Int × List PairKey → Option (World_ × Int)) =>
  Chk ((0 : Int) ≤ s1116.snd.fst ∧ s1116.snd.fst < (↑(List.length s1116.snd.snd) : Int))
  (Chk ((0 : Int) ≤ s1116.snd.fst ∧ s1116.snd.fst < (↑(List.length s1116.snd.snd) : Int))
  (Let (ix s1116.snd.snd s1116.snd.fst) fun (x1122 : PairKey) =>
  Rx.Bind (world_RemoveBody_1 x1122 id1) fun (r1123 : Bool) =>
  Let (!r1123) fun (x1124 : Bool) =>
  if x1124 = true then
  Chk ((0 : Int) ≤ s1116.fst ∧ s1116.fst < (↑(List.length s1116.snd.snd) : Int))
  (Chk ((0 : Int) ≤ s1116.fst ∧ s1116.fst < (↑(List.length s1116.snd.snd) : Int))
  (Let (List.set s1116.snd.snd (Int.toNat s1116.fst) x1122) fun (x1125 : List PairKey) =>
  Let (IntKind.i64.wrap (s1116.fst + (1 : Int))) fun (x1126 : Int) => j1121 (x1126, x1125)))
  else j1121 (s1116.fst, s1116.snd.snd)))
  else
  Chk
  ((0 : Int) ≤ (some s1116.fst).getD (0 : Int) ∧
  (0 : Int) ≤ none.getD (0 : Int) ∧
  Int.toNat s1116.fst ≤ List.length s1116.snd.snd ∧ List.length s1116.snd.snd ≤ List.length s1116.snd.snd)
  (Chk
  (Int.toNat s1116.fst + (List.length s1116.snd.snd - Int.toNat s1116.fst) ≤ List.length s1116.snd.snd ∧
  (0 : Nat) < List.length s1116.snd.snd - Int.toNat s1116.fst)
  (Let
  (List.take (Int.toNat s1116.fst) s1116.snd.snd ++
  List.replicate (List.length s1116.snd.snd - Int.toNat s1116.fst)
  { BodyA := (0 : Int), FixtureA := (0 : Int), BodyB := (0 : Int), FixtureB := (0 : Int) : PairKey } ++
  List.drop (Int.toNat s1116.fst + (List.length s1116.snd.snd - Int.toNat s1116.fst)) s1116.snd.snd)
  fun (x1127 : List PairKey) =>
  Chk
  ((0 : Int) ≤ none.getD (0 : Int) ∧
  (0 : Int) ≤ (some s1116.fst).getD (0 : Int) ∧ (0 : Nat) ≤ Int.toNat s1116.fst ∧ Int.toNat s1116.fst ≤ x1127.length)
  (Chk (Int.toNat s1116.fst - (0 : Nat) ≤ x1127.length)
  (Let (List.take (Int.toNat s1116.fst - (0 : Nat)) x1127) fun (x1128 : List PairKey) =>
  Rx.Bind
  (world_wakeAll
  { Settings := r860.Settings, Bodies := x1067, Joints := r860.Joints, Contacts := x1110, Overlaps := x1128, NextID := r860.NextID, Frame := r860.Frame : World_ }
  s874.fst)
  fun (r1129 : World_) => some (r1129, (0 : Int)))))))
  fuel (r1111, x1114, r860.Overlaps))))))
  fuel (s1072, x1096, r860.Contacts)
  else Let (IntKind.i64.wrap (s1072 + (1 : Int))) fun (x1130 : Int) => rec1071 x1130))
  else
  Rx.Bind (slices_IndexFunc_130 r860.Overlaps fun (a : Tup tb [Ix.tPairKey]) => world_RemoveBody_1 a id1)
  fun (r1131 : Int) =>
  Let (r1131 == (-1 : Int)) fun (x1132 : Bool) =>
  if x1132 = true then
  Rx.Bind
  (world_wakeAll
  { Settings := r860.Settings, Bodies := x1067, Joints := r860.Joints, Contacts := r860.Contacts, Overlaps := r860.Overlaps, NextID := r860.NextID, Frame := r860.Frame : World_ }
  s874.fst)
  fun (r1133 : World_) => some (r1133, (0 : Int))
  else
  Let (IntKind.i64.wrap (r1131 + (1 : Int))) fun (x1134 : Int) =>
  LOOP
  (fun (rec1135 : Int × Int × List PairKey → Option (World_ × Int)) (s1136 : Int × Int × List PairKey) =>
  Let (↑(List.length s1136.snd.snd) : Int) fun (x1137 : Int) =>
  Let (decide (s1136.snd.fst < x1137)) fun (x1138 : Bool) =>
  if x1138 = true then
  Join
  (fun (v1139 : Int × List PairKey) =>
  Let (IntKind.i64.wrap (s1136.snd.fst + (1 : Int))) fun (x1140 : Int) => rec1135 (v1139.fst, x1140, v1139.snd))
  fun (j1141 : Int × List PairKey → Option (World_ × Int)) =>
  Chk ((0 : Int) ≤ s1136.snd.fst ∧ s1136.snd.fst < (↑(List.length s1136.snd.snd) : Int))
  (Chk ((0 : Int) ≤ s1136.snd.fst ∧ s1136.snd.fst < (↑(List.length s1136.snd.snd) : Int))
  (Let (ix s1136.snd.snd s1136.snd.fst) fun (x1142 : PairKey) =>
  Rx.Bind (world_RemoveBody_1 x1142 id1) fun (r1143 : Bool) =>
  Let (!r1143) fun (x1144 : Bool) =>
  if x1144 = true then
  Chk ((0 : Int) ≤ s1136.fst ∧ s1136.fst < (↑(List.length s1136.snd.snd) : Int))
  (Chk ((0 : Int) ≤ s1136.fst ∧ s1136.fst < (↑(List.length s1136.snd.snd) : Int))
  (Let (List.set s1136.snd.snd (Int.toNat s1136.fst) x1142) fun (x1145 : List PairKey) =>
  Let (IntKind.i64.wrap (s1136.fst + (1 : Int))) fun (x1146 : Int) => j1141 (x1146, x1145)))
  else j1141 (s1136.fst, s1136.snd.snd)))
  else
  Chk
  ((0 : Int) ≤ (some s1136.fst).getD (0 : Int) ∧
  (0 : Int) ≤ none.getD (0 : Int) ∧
  Int.toNat s1136.fst ≤ List.length s1136.snd.snd ∧ List.length s1136.snd.snd ≤ List.length s1136.snd.snd)
  (Chk
  (Int.toNat s1136.fst + (List.length s1136.snd.snd - Int.toNat s1136.fst) ≤ List.length s1136.snd.snd ∧
  (0 : Nat) < List.length s1136.snd.snd - Int.toNat s1136.fst)
  (Let
  (List.take (Int.toNat s1136.fst) s1136.snd.snd ++
  List.replicate (List.length s1136.snd.snd - Int.toNat s1136.fst)
  { BodyA := (0 : Int), FixtureA := (0 : Int), BodyB := (0 : Int), FixtureB := (0 : Int) : PairKey } ++
  List.drop (Int.toNat s1136.fst + (List.length s1136.snd.snd - Int.toNat s1136.fst)) s1136.snd.snd)
  fun (x1147 : List PairKey) =>
  Chk
  ((0 : Int) ≤ none.getD (0 : Int) ∧
  (0 : Int) ≤ (some s1136.fst).getD (0 : Int) ∧ (0 : Nat) ≤ Int.toNat s1136.fst ∧ Int.toNat s1136.fst ≤ x1147.length)
  (Chk (Int.toNat s1136.fst - (0 : Nat) ≤ x1147.length)
  (Let (List.take (Int.toNat s1136.fst - (0 : Nat)) x1147) fun (x1148 : List PairKey) =>
  Rx.Bind
  (world_wakeAll
  { Settings := r860.Settings, Bodies := x1067, Joints := r860.Joints, Contacts := r860.Contacts, Overlaps := x1148, NextID := r860.NextID, Frame := r860.Frame : World_ }
  s874.fst)
  fun (r1149 : World_) => some (r1149, (0 : Int)))))))
  fuel (r1131, x1134, r860.Overlaps))
  fuel (0 : Int)
  else
  Let (IntKind.i64.wrap (r1068 + (1 : Int))) fun (x1150 : Int) =>
  LOOP
  (fun (rec1151 : Int × Int × List Joint → Option (World_ × Int)) (s1152 : Int × Int × List Joint) =>
  Let (↑(List.length s1152.snd.snd) : Int) fun (x1153 : Int) =>
  Let (decide (s1152.snd.fst < x1153)) fun (x1154 : Bool) =>
  if x1154 = true then
  Join
  (fun (v1155 : Int × List Joint) =>
  Let (IntKind.i64.wrap (s1152.snd.fst + (1 : Int))) fun (x1156 : Int) => rec1151 (v1155.fst, x1156, v1155.snd))
  fun (j1157 : Int × List Joint → Option (World_ × Int)) =>
  Chk ((0 : Int) ≤ s1152.snd.fst ∧ s1152.snd.fst < (↑(List.length s1152.snd.snd) : Int))
  (Chk ((0 : Int) ≤ s1152.snd.fst ∧ s1152.snd.fst < (↑(List.length s1152.snd.snd) : Int))
  (Let (ix s1152.snd.snd s1152.snd.fst) fun (x1158 : Joint) =>
  Rx.Bind (world_RemoveBody_2 x1158 id1) fun (r1159 : Bool) =>
  Let (!r1159) fun (x1160 : Bool) =>
  if x1160 = true then
  Chk ((0 : Int) ≤ s1152.fst ∧ s1152.fst < (↑(List.length s1152.snd.snd) : Int))
  (Chk ((0 : Int) ≤ s1152.fst ∧ s1152.fst < (↑(List.length s1152.snd.snd) : Int))
  (Let (List.set s1152.snd.snd (Int.toNat s1152.fst) x1158) fun (x1161 : List Joint) =>
  Let (IntKind.i64.wrap (s1152.fst + (1 : Int))) fun (x1162 : Int) => j1157 (x1162, x1161)))
  else j1157 (s1152.fst, s1152.snd.snd)))
  else
  Chk
  ((0 : Int) ≤ (some s1152.fst).getD (0 : Int) ∧
  (0 : Int) ≤ none.getD (0 : Int) ∧
  Int.toNat s1152.fst ≤ List.length s1152.snd.snd ∧ List.length s1152.snd.snd ≤ List.length s1152.snd.snd)
  (Chk
  (Int.toNat s1152.fst + (List.length s1152.snd.snd - Int.toNat s1152.fst) ≤ List.length s1152.snd.snd ∧
  (0 : Nat) < List.length s1152.snd.snd - Int.toNat s1152.fst)
  (Let
  (List.take (Int.toNat s1152.fst) s1152.snd.snd ++
  List.replicate (List.length s1152.snd.snd - Int.toNat s1152.fst)
  { ID := (0 : Int), Kind := (0 : Int), BodyA := (0 : Int), BodyB := (0 : Int), AnchorA := { X := (0 : Int), Y := (0 : Int) : Vec }, AnchorB := { X := (0 : Int), Y := (0 : Int) : Vec }, Axis := { X := (0 : Int), Y := (0 : Int) : Vec }, ReferenceAngle := (0 : Int), EnableLimit := false, Lower := (0 : Int), Upper := (0 : Int), EnableMotor := false, MotorSpeed := (0 : Int), MaxForce := (0 : Int), Softness := (0 : Int), BreakForce := (0 : Int), CollideConnected := false, Impulses := ((0 : Int), (0 : Int), (0 : Int), (0 : Int)) : Joint } ++
  List.drop (Int.toNat s1152.fst + (List.length s1152.snd.snd - Int.toNat s1152.fst)) s1152.snd.snd)
  fun (x1163 : List Joint) =>
  Chk
  ((0 : Int) ≤ none.getD (0 : Int) ∧
  (0 : Int) ≤ (some s1152.fst).getD (0 : Int) ∧ (0 : Nat) ≤ Int.toNat s1152.fst ∧ Int.toNat s1152.fst ≤ x1163.length)
  (Chk (Int.toNat s1152.fst - (0 : Nat) ≤ x1163.length)
  (Let (List.take (Int.toNat s1152.fst - (0 : Nat)) x1163) fun (x1164 : List Joint) =>
  Let (↑r860.Contacts.length : Int) fun (x1165 : Int) =>
  LOOP
  (fun (rec1166 : Int → Option (World_ × Int)) (s1167 : Int) =>
  Let (decide (s1167 < x1165)) fun (x1168 : Bool) =>
  if x1168 = true then
  Chk ((0 : Int) ≤ s1167 ∧ s1167 < (↑r860.Contacts.length : Int))
  (Chk ((0 : Int) ≤ s1167 ∧ s1167 < (↑r860.Contacts.length : Int))
  (Let (ix r860.Contacts s1167) fun (x1169 : Contact) =>
  Rx.Bind (world_RemoveBody_1 x1169.Key id1) fun (r1170 : Bool) =>
  if r1170 = true then
  Let (s1167 == (-1 : Int)) fun (x1171 : Bool) =>
  if x1171 = true then
  Rx.Bind (slices_IndexFunc_130 r860.Overlaps fun (a : Tup tb [Ix.tPairKey]) => world_RemoveBody_1 a id1)
  fun (r1172 : Int) =>
  Let (r1172 == (-1 : Int)) fun (x1173 : Bool) =>
  if x1173 = true then
  Rx.Bind
  (world_wakeAll
  { Settings := r860.Settings, Bodies := x1067, Joints := x1164, Contacts := r860.Contacts, Overlaps := r860.Overlaps, NextID := r860.NextID, Frame := r860.Frame : World_ }
  s874.fst)
  fun (r1174 : World_) => some (r1174, (0 : Int))
  else
  Let (IntKind.i64.wrap (r1172 + (1 : Int))) fun (x1175 : Int) =>
  LOOP
  (fun (rec1176 : Int × Int × List PairKey → Option (World_ × Int)) (s1177 : Int × Int × List PairKey) =>
  Let (↑(List.length s1177.snd.snd) : Int) fun (x1178 : Int) =>
  Let (decide (s1177.snd.fst < x1178)) fun (x1179 : Bool) =>
  if x1179 = true then
  Join
  (fun (v1180 : Int × List PairKey) =>
  Let (IntKind.i64.wrap (s1177.snd.fst + (1 : Int))) fun (x1181 : Int) => rec1176 (v1180.fst, x1181, v1180.snd))
  fun (j1182 : Int × List PairKey → Option (World_ × Int)) =>
  Chk ((0 : Int) ≤ s1177.snd.fst ∧ s1177.snd.fst < (↑(List.length s1177.snd.snd) : Int))
  (Chk ((0 : Int) ≤ s1177.snd.fst ∧ s1177.snd.fst < (↑(List.length s1177.snd.snd) : Int))
  (Let (ix s1177.snd.snd s1177.snd.fst) fun (x1183 : PairKey) =>
  Rx.Bind (world_RemoveBody_1 x1183 id1) fun (r1184 : Bool) =>
  Let (!r1184) fun (x1185 : Bool) =>
  if x1185 = true then
  Chk ((0 : Int) ≤ s1177.fst ∧ s1177.fst < (↑(List.length s1177.snd.snd) : Int))
  (Chk ((0 : Int) ≤ s1177.fst ∧ s1177.fst < (↑(List.length s1177.snd.snd) : Int))
  (Let (List.set s1177.snd.snd (Int.toNat s1177.fst) x1183) fun (x1186 : List PairKey) =>
  Let (IntKind.i64.wrap (s1177.fst + (1 : Int))) fun (x1187 : Int) => j1182 (x1187, x1186)))
  else j1182 (s1177.fst, s1177.snd.snd)))
  else
  Chk
  ((0 : Int) ≤ (some s1177.fst).getD (0 : Int) ∧
  (0 : Int) ≤ none.getD (0 : Int) ∧
  Int.toNat s1177.fst ≤ List.length s1177.snd.snd ∧ List.length s1177.snd.snd ≤ List.length s1177.snd.snd)
  (Chk
  (Int.toNat s1177.fst + (List.length s1177.snd.snd - Int.toNat s1177.fst) ≤ List.length s1177.snd.snd ∧
  (0 : Nat) < List.length s1177.snd.snd - Int.toNat s1177.fst)
  (Let
  (List.take (Int.toNat s1177.fst) s1177.snd.snd ++
  List.replicate (List.length s1177.snd.snd - Int.toNat s1177.fst)
  { BodyA := (0 : Int), FixtureA := (0 : Int), BodyB := (0 : Int), FixtureB := (0 : Int) : PairKey } ++
  List.drop (Int.toNat s1177.fst + (List.length s1177.snd.snd - Int.toNat s1177.fst)) s1177.snd.snd)
  fun (x1188 : List PairKey) =>
  Chk
  ((0 : Int) ≤ none.getD (0 : Int) ∧
  (0 : Int) ≤ (some s1177.fst).getD (0 : Int) ∧ (0 : Nat) ≤ Int.toNat s1177.fst ∧ Int.toNat s1177.fst ≤ x1188.length)
  (Chk (Int.toNat s1177.fst - (0 : Nat) ≤ x1188.length)
  (Let (List.take (Int.toNat s1177.fst - (0 : Nat)) x1188) fun (x1189 : List PairKey) =>
  Rx.Bind
  (world_wakeAll
  { Settings := r860.Settings, Bodies := x1067, Joints := x1164, Contacts := r860.Contacts, Overlaps := x1189, NextID := r860.NextID, Frame := r860.Frame : World_ }
  s874.fst)
  fun (r1190 : World_) => some (r1190, (0 : Int)))))))
  fuel (r1172, x1175, r860.Overlaps)
  else
  Let (IntKind.i64.wrap (s1167 + (1 : Int))) fun (x1191 : Int) =>
  LOOP
  (fun (rec1192 : Int × Int × List Contact → Option (World_ × Int)) (s1193 : Int × Int × List Contact) =>
  Let (↑(List.length s1193.snd.snd) : Int) fun (x1194 : Int) =>
  Let (decide (s1193.snd.fst < x1194)) fun (x1195 : Bool) =>
  if x1195 = true then
  Join
  (fun (v1196 : Int × List Contact) =>
  Let (IntKind.i64.wrap (s1193.snd.fst + (1 : Int))) fun (x1197 : Int) => rec1192 (v1196.fst, x1197, v1196.snd))
  fun (j1198 : Int × List Contact → Option (World_ × Int)) =>
  Chk ((0 : Int) ≤ s1193.snd.fst ∧ s1193.snd.fst < (↑(List.length s1193.snd.snd) : Int))
  (Chk ((0 : Int) ≤ s1193.snd.fst ∧ s1193.snd.fst < (↑(List.length s1193.snd.snd) : Int))
  (Let (ix s1193.snd.snd s1193.snd.fst) fun (x1199 : Contact) =>
  Rx.Bind (world_RemoveBody_1 x1199.Key id1) fun (r1200 : Bool) =>
  Let (!r1200) fun (x1201 : Bool) =>
  if x1201 = true then
  Chk ((0 : Int) ≤ s1193.fst ∧ s1193.fst < (↑(List.length s1193.snd.snd) : Int))
  (Chk ((0 : Int) ≤ s1193.fst ∧ s1193.fst < (↑(List.length s1193.snd.snd) : Int))
  (Let (List.set s1193.snd.snd (Int.toNat s1193.fst) x1199) fun (x1202 : List Contact) =>
  Let (IntKind.i64.wrap (s1193.fst + (1 : Int))) fun (x1203 : Int) => j1198 (x1203, x1202)))
  else j1198 (s1193.fst, s1193.snd.snd)))
  else
  Chk
  ((0 : Int) ≤ (some s1193.fst).getD (0 : Int) ∧
  (0 : Int) ≤ none.getD (0 : Int) ∧
  Int.toNat s1193.fst ≤ List.length s1193.snd.snd ∧ List.length s1193.snd.snd ≤ List.length s1193.snd.snd)
  (Chk
  (Int.toNat s1193.fst + (List.length s1193.snd.snd - Int.toNat s1193.fst) ≤ List.length s1193.snd.snd ∧
  (0 : Nat) < List.length s1193.snd.snd - Int.toNat s1193.fst)
  (Let
  (List.take (Int.toNat s1193.fst) s1193.snd.snd ++
  List.replicate (List.length s1193.snd.snd - Int.toNat s1193.fst)
  { Key := { BodyA := (0 : Int), FixtureA := (0 : Int), BodyB := (0 : Int), FixtureB := (0 : Int) : PairKey }, Manifold := { Normal := { X := (0 : Int), Y := (0 : Int) : Vec }, Points := [] : Manifold } : Contact } ++
  List.drop (Int.toNat s1193.fst + (List.length s1193.snd.snd - Int.toNat s1193.fst)) s1193.snd.snd)
  fun (x1204 : List Contact) =>
  Chk
  ((0 : Int) ≤ none.getD (0 : Int) ∧
  (0 : Int) ≤ (some s1193.fst).getD (0 : Int) ∧ (0 : Nat) ≤ Int.toNat s1193.fst ∧ Int.toNat s1193.fst ≤ x1204.length)
  (Chk (Int.toNat s1193.fst - (0 : Nat) ≤ x1204.length)
  (Let (List.take (Int.toNat s1193.fst - (0 : Nat)) x1204) fun (x1205 : List Contact) =>
  Rx.Bind (slices_IndexFunc_130 r860.Overlaps fun (a : Tup tb [Ix.tPairKey]) => world_RemoveBody_1 a id1)
  fun (r1206 : Int) =>
  Let (r1206 == (-1 : Int)) fun (x1207 : Bool) =>
  if x1207 = true then
  Rx.Bind
  (world_wakeAll
  { Settings := r860.Settings, Bodies := x1067, Joints := x1164, Contacts := x1205, Overlaps := r860.Overlaps, NextID := r860.NextID, Frame := r860.Frame : World_ }
  s874.fst)
  fun (r1208 : World_) => some (r1208, (0 : Int))
  else
  Let (IntKind.i64.wrap (r1206 + (1 : Int))) fun (x1209 : Int) =>
  LOOP
  (fun (rec1210 : Int × Int × List PairKey → Option (World_ × Int)) (s1211 : Int × Int × List PairKey) =>
  Let (↑(List.length s1211.snd.snd) : Int) fun (x1212 : Int) =>
  Let (decide (s1211.snd.fst < x1212)) fun (x1213 : Bool) =>
  if x1213 = true then
  Join
  (fun (v1214 : Int × List PairKey) =>
  Let (IntKind.i64.wrap (s1211.snd.fst + (1 : Int))) fun (x1215 : Int) => rec1210 (v1214.fst, x1215, v1214.snd))
  fun (j1216 : Int × List PairKey → Option (World_ × Int)) =>
  Chk ((0 : Int) ≤ s1211.snd.fst ∧ s1211.snd.fst < (↑(List.length s1211.snd.snd) : Int))
  (Chk ((0 : Int) ≤ s1211.snd.fst ∧ s1211.snd.fst < (↑(List.length s1211.snd.snd) : Int))
  (Let (ix s1211.snd.snd s1211.snd.fst) fun (x1217 : PairKey) =>
  Rx.Bind (world_RemoveBody_1 x1217 id1) fun (r1218 : Bool) =>
  Let (!r1218) fun (x1219 : Bool) =>
  if x1219 = true then
  Chk ((0 : Int) ≤ s1211.fst ∧ s1211.fst < (↑(List.length s1211.snd.snd) : Int))
  (Chk ((0 : Int) ≤ s1211.fst ∧ s1211.fst < (↑(List.length s1211.snd.snd) : Int))
  (Let (List.set s1211.snd.snd (Int.toNat s1211.fst) x1217) fun (x1220 : List PairKey) =>
  Let (IntKind.i64.wrap (s1211.fst + (1 : Int))) fun (x1221 : Int) => j1216 (x1221, x1220)))
  else j1216 (s1211.fst, s1211.snd.snd)))
  else
  Chk
  ((0 : Int) ≤ (some s1211.fst).getD (0 : Int) ∧
  (0 : Int) ≤ none.getD (0 : Int) ∧
  Int.toNat s1211.fst ≤ List.length s1211.snd.snd ∧ List.length s1211.snd.snd ≤ List.length s1211.snd.snd)
  (Chk
  (Int.toNat s1211.fst + (List.length s1211.snd.snd - Int.toNat s1211.fst) ≤ List.length s1211.snd.snd ∧
  (0 : Nat) < List.length s1211.snd.snd - Int.toNat s1211.fst)
  (Let
  (List.take (Int.toNat s1211.fst) s1211.snd.snd ++
  List.replicate (List.length s1211.snd.snd - Int.toNat s1211.fst)
  { BodyA := (0 : Int), FixtureA := (0 : Int), BodyB := (0 : Int), FixtureB := (0 : Int) : PairKey } ++
  List.drop (Int.toNat s1211.fst + (List.length s1211.snd.snd - Int.toNat s1211.fst)) s1211.snd.snd)
  fun (x1222 : List PairKey) =>
  Chk
  ((0 : Int) ≤ none.getD (0 : Int) ∧
  (0 : Int) ≤ (some s1211.fst).getD (0 : Int) ∧ (0 : Nat) ≤ Int.toNat s1211.fst ∧ Int.toNat s1211.fst ≤ x1222.length)
  (Chk (Int.toNat s1211.fst - (0 : Nat) ≤ x1222.length)
  (Let (List.take (Int.toNat s1211.fst - (0 : Nat)) x1222) fun (x1223 : List PairKey) =>
  Rx.Bind
  (world_wakeAll
  { Settings := r860.Settings, Bodies := x1067, Joints := x1164, Contacts := x1205, Overlaps := x1223, NextID := r860.NextID, Frame := r860.Frame : World_ }
  s874.fst)
  fun (r1224 : World_) => some (r1224, (0 : Int)))))))
  fuel (r1206, x1209, r860.Overlaps))))))
  fuel (s1167, x1191, r860.Contacts)
  else Let (IntKind.i64.wrap (s1167 + (1 : Int))) fun (x1225 : Int) => rec1166 x1225))
  else
  Rx.Bind (slices_IndexFunc_130 r860.Overlaps fun (a : Tup tb [Ix.tPairKey]) => world_RemoveBody_1 a id1)
  fun (r1226 : Int) =>
  Let (r1226 == (-1 : Int)) fun (x1227 : Bool) =>
  if x1227 = true then
  Rx.Bind
  (world_wakeAll
  { Settings := r860.Settings, Bodies := x1067, Joints := x1164, Contacts := r860.Contacts, Overlaps := r860.Overlaps, NextID := r860.NextID, Frame := r860.Frame : World_ }
  s874.fst)
  fun (r1228 : World_) => some (r1228, (0 : Int))
  else
  Let (IntKind.i64.wrap (r1226 + (1 : Int))) fun (x1229 : Int) =>
  LOOP
  (fun (rec1230 : Int × Int × List PairKey → Option (World_ × Int)) (s1231 : Int × Int × List PairKey) =>
  Let (↑(List.length s1231.snd.snd) : Int) fun (x1232 : Int) =>
  Let (decide (s1231.snd.fst < x1232)) fun (x1233 : Bool) =>
  if x1233 = true then
  Join
  (fun (v1234 : Int × List PairKey) =>
  Let (IntKind.i64.wrap (s1231.snd.fst + (1 : Int))) fun (x1235 : Int) => rec1230 (v1234.fst, x1235, v1234.snd))
  fun (j1236 : Int × List PairKey → Option (World_ × Int)) =>
  Chk ((0 : Int) ≤ s1231.snd.fst ∧ s1231.snd.fst < (↑(List.length s1231.snd.snd) : Int))
  (Chk ((0 : Int) ≤ s1231.snd.fst ∧ s1231.snd.fst < (↑(List.length s1231.snd.snd) : Int))
  (Let (ix s1231.snd.snd s1231.snd.fst) fun (x1237 : PairKey) =>
  Rx.Bind (world_RemoveBody_1 x1237 id1) fun (r1238 : Bool) =>
  Let (!r1238) fun (x1239 : Bool) =>
  if x1239 = true then
  Chk ((0 : Int) ≤ s1231.fst ∧ s1231.fst < (↑(List.length s1231.snd.snd) : Int))
  (Chk ((0 : Int) ≤ s1231.fst ∧ s1231.fst < (↑(List.length s1231.snd.snd) : Int))
  (Let (List.set s1231.snd.snd (Int.toNat s1231.fst) x1237) fun (x1240 : List PairKey) =>
  Let (IntKind.i64.wrap (s1231.fst + (1 : Int))) fun (x1241 : Int) => j1236 (x1241, x1240)))
  else j1236 (s1231.fst, s1231.snd.snd)))
  else
  Chk
  ((0 : Int) ≤ (some s1231.fst).getD (0 : Int) ∧
  (0 : Int) ≤ none.getD (0 : Int) ∧
  Int.toNat s1231.fst ≤ List.length s1231.snd.snd ∧ List.length s1231.snd.snd ≤ List.length s1231.snd.snd)
  (Chk
  (Int.toNat s1231.fst + (List.length s1231.snd.snd - Int.toNat s1231.fst) ≤ List.length s1231.snd.snd ∧
  (0 : Nat) < List.length s1231.snd.snd - Int.toNat s1231.fst)
  (Let
  (List.take (Int.toNat s1231.fst) s1231.snd.snd ++
  List.replicate (List.length s1231.snd.snd - Int.toNat s1231.fst)
  { BodyA := (0 : Int), FixtureA := (0 : Int), BodyB := (0 : Int), FixtureB := (0 : Int) : PairKey } ++
  List.drop (Int.toNat s1231.fst + (List.length s1231.snd.snd - Int.toNat s1231.fst)) s1231.snd.snd)
  fun (x1242 : List PairKey) =>
  Chk
  ((0 : Int) ≤ none.getD (0 : Int) ∧
  (0 : Int) ≤ (some s1231.fst).getD (0 : Int) ∧ (0 : Nat) ≤ Int.toNat s1231.fst ∧ Int.toNat s1231.fst ≤ x1242.length)
  (Chk (Int.toNat s1231.fst - (0 : Nat) ≤ x1242.length)
  (Let (List.take (Int.toNat s1231.fst - (0 : Nat)) x1242) fun (x1243 : List PairKey) =>
  Rx.Bind
  (world_wakeAll
  { Settings := r860.Settings, Bodies := x1067, Joints := x1164, Contacts := r860.Contacts, Overlaps := x1243, NextID := r860.NextID, Frame := r860.Frame : World_ }
  s874.fst)
  fun (r1244 : World_) => some (r1244, (0 : Int)))))))
  fuel (r1226, x1229, r860.Overlaps))
  fuel (0 : Int))))))
  fuel (r1068, x1150, r860.Joints))))))))))
  fuel (s863.fst, (0 : Int)))
  fuel ([], (0 : Int))

noncomputable def world_FindJoint_1 (j0 : Joint) (p1 : Int) : Option Bool :=
  Let (j0.ID == p1) fun (x1245 : Bool) => some x1245

noncomputable def world_FindJoint (w0 : World_) (id1 : Int) : Option Int :=
  Rx.Bind (slices_IndexFunc_128 w0.Joints fun (a : Tup tb [Ix.tJoint]) => world_FindJoint_1 a id1) fun (r1246 : Int) =>
  some r1246

noncomputable def world_RemoveJoint (w0 : World_) (id1 : Int) : Option (World_ × Int) :=
  Rx.Bind (world_FindJoint w0 id1) fun (r1247 : Int) =>
  Let (decide (r1247 < (0 : Int))) fun (x1248 : Bool) =>
  if x1248 = true then
  some
  ({ Settings := { TimeStep := (0 : Int), Gravity := { X := (0 : Int), Y := (0 : Int) : Vec }, Iterations := (0 : Int), SleepSteps := (0 : Int) : Settings }, Bodies := [], Joints := [], Contacts := [], Overlaps := [], NextID := (0 : Int), Frame := (0 : Int) : World_ },
  (8 : Int))
  else
  Rx.Bind (world_Clone w0) fun (r1249 : World_) =>
  Chk ((0 : Int) ≤ r1247 ∧ r1247 < (↑r1249.Joints.length : Int))
  (Chk ((0 : Int) ≤ r1247 ∧ r1247 < (↑r1249.Joints.length : Int))
  (Let (ix r1249.Joints r1247) fun (x1250 : Joint) =>
  Let (IntKind.i64.wrap (r1247 + (1 : Int))) fun (x1251 : Int) =>
  Let (↑r1249.Joints.length : Int) fun (x1252 : Int) =>
  Chk ((0 : Int) ≤ r1247 ∧ r1247 ≤ x1251 ∧ x1251 ≤ x1252 ∧ x1252 ≤ (↑r1249.Joints.length : Int))
  (Let (r1247 == x1251) fun (x1253 : Bool) =>
  if x1253 = true then
  Rx.Bind (world_wakeAll r1249 [x1250.BodyA, x1250.BodyB]) fun (r1254 : World_) => some (r1254, (0 : Int))
  else
  Let (↑r1249.Joints.length : Int) fun (x1255 : Int) =>
  Chk
  ((0 : Int) ≤ none.getD (0 : Int) ∧
  (0 : Int) ≤ (some r1247).getD (0 : Int) ∧ (0 : Nat) ≤ r1247.toNat ∧ r1247.toNat ≤ r1249.Joints.length)
  (Chk
  ((0 : Int) ≤ (some x1251).getD (0 : Int) ∧
  (0 : Int) ≤ none.getD (0 : Int) ∧ x1251.toNat ≤ r1249.Joints.length ∧ r1249.Joints.length ≤ r1249.Joints.length)
  (Chk (x1251.toNat + (r1249.Joints.length - x1251.toNat) ≤ r1249.Joints.length)
  (Let (List.take (r1249.Joints.length - x1251.toNat) (List.drop x1251.toNat r1249.Joints)) fun (x1256 : List Joint) =>
  Chk
  ((0 : Nat) + (r1247.toNat - (0 : Nat) + x1256.length) ≤ r1249.Joints.length ∧
  r1247.toNat - (0 : Nat) + x1256.length ≤ r1249.Joints.length - (0 : Nat) ∧ (0 : Nat) < r1249.Joints.length - (0 : Nat))
  (Let
  (List.take ((0 : Nat) + (r1247.toNat - (0 : Nat))) r1249.Joints ++ x1256 ++
  List.drop ((0 : Nat) + (r1247.toNat - (0 : Nat)) + x1256.length) r1249.Joints)
  fun (x1257 : List Joint) =>
  Chk
  ((0 : Int) ≤ (some (↑(r1247.toNat - (0 : Nat) + x1256.length) : Int)).getD (0 : Int) ∧
  (0 : Int) ≤ (some x1255).getD (0 : Int) ∧
  (↑(r1247.toNat - (0 : Nat) + x1256.length) : Int).toNat ≤ x1255.toNat ∧
  x1255.toNat ≤ r1249.Joints.length - (0 : Nat) ∧
  r1247.toNat - (0 : Nat) + x1256.length ≤ r1249.Joints.length - (0 : Nat))
  (Chk
  ((0 : Nat) + (↑(r1247.toNat - (0 : Nat) + x1256.length) : Int).toNat +
  (x1255.toNat - (↑(r1247.toNat - (0 : Nat) + x1256.length) : Int).toNat) ≤
  x1257.length ∧
  (0 : Nat) < r1249.Joints.length - (0 : Nat) - (↑(r1247.toNat - (0 : Nat) + x1256.length) : Int).toNat)
  (Let
  (List.take ((0 : Nat) + (↑(r1247.toNat - (0 : Nat) + x1256.length) : Int).toNat) x1257 ++
  List.replicate (x1255.toNat - (↑(r1247.toNat - (0 : Nat) + x1256.length) : Int).toNat)
  { ID := (0 : Int), Kind := (0 : Int), BodyA := (0 : Int), BodyB := (0 : Int), AnchorA := { X := (0 : Int), Y := (0 : Int) : Vec }, AnchorB := { X := (0 : Int), Y := (0 : Int) : Vec }, Axis := { X := (0 : Int), Y := (0 : Int) : Vec }, ReferenceAngle := (0 : Int), EnableLimit := false, Lower := (0 : Int), Upper := (0 : Int), EnableMotor := false, MotorSpeed := (0 : Int), MaxForce := (0 : Int), Softness := (0 : Int), BreakForce := (0 : Int), CollideConnected := false, Impulses := ((0 : Int), (0 : Int), (0 : Int), (0 : Int)) : Joint } ++
  List.drop
  ((0 : Nat) + (↑(r1247.toNat - (0 : Nat) + x1256.length) : Int).toNat +
  (x1255.toNat - (↑(r1247.toNat - (0 : Nat) + x1256.length) : Int).toNat))
  x1257)
  fun (x1258 : List Joint) =>
  Chk (r1247.toNat - (0 : Nat) + x1256.length ≤ x1258.length)
  (Let (List.take (r1247.toNat - (0 : Nat) + x1256.length) x1258) fun (x1259 : List Joint) =>
  Rx.Bind
  (world_wakeAll
  { Settings := r1249.Settings, Bodies := r1249.Bodies, Joints := x1259, Contacts := r1249.Contacts, Overlaps := r1249.Overlaps, NextID := r1249.NextID, Frame := r1249.Frame : World_ }
  [x1250.BodyA, x1250.BodyB])
  fun (r1260 : World_) => some (r1260, (0 : Int))))))))))))

noncomputable def input_applyToJoint (w0 : World_) (x1 : Input) : Option (World_ × Int) :=
  Rx.Bind (world_FindJoint w0 x1.ID) fun (r1261 : Int) =>
  Let (decide (r1261 < (0 : Int))) fun (x1262 : Bool) =>
  if x1262 = true then
  some
  ({ Settings := { TimeStep := (0 : Int), Gravity := { X := (0 : Int), Y := (0 : Int) : Vec }, Iterations := (0 : Int), SleepSteps := (0 : Int) : Settings }, Bodies := [], Joints := [], Contacts := [], Overlaps := [], NextID := (0 : Int), Frame := (0 : Int) : World_ },
  (8 : Int))
  else
  Chk ((0 : Int) ≤ r1261 ∧ r1261 < (↑w0.Joints.length : Int))
  (Let (ix w0.Joints r1261) fun (x1263 : Joint) =>
  Join
  (fun (v1264 : World_ × Joint) =>
  Rx.Bind (joint_Validate v1264.snd) fun (r1265 : Int) =>
  Let (r1265 != (0 : Int)) fun (x1266 : Bool) =>
  if x1266 = true then
  some
  ({ Settings := { TimeStep := (0 : Int), Gravity := { X := (0 : Int), Y := (0 : Int) : Vec }, Iterations := (0 : Int), SleepSteps := (0 : Int) : Settings }, Bodies := [], Joints := [], Contacts := [], Overlaps := [], NextID := (0 : Int), Frame := (0 : Int) : World_ },
  (6 : Int))
  else
  Rx.Bind (world_Clone w0) fun (r1267 : World_) =>
  Chk ((0 : Int) ≤ r1261 ∧ r1261 < (↑r1267.Joints.length : Int))
  (Chk ((0 : Int) ≤ r1261 ∧ r1261 < (↑r1267.Joints.length : Int))
  (Let (r1267.Joints.set r1261.toNat v1264.snd) fun (x1268 : List Joint) =>
  Rx.Bind
  (world_WakeBody
  { Settings := r1267.Settings, Bodies := r1267.Bodies, Joints := x1268, Contacts := r1267.Contacts, Overlaps := r1267.Overlaps, NextID := r1267.NextID, Frame := r1267.Frame : World_ }
  v1264.snd.BodyA)
  fun (r1269 : World_) =>
  Rx.Bind (world_WakeBody r1269 v1264.snd.BodyB) fun (r1270 : World_) => some (r1270, (0 : Int)))))
  fun (j1271 : World_ × Joint → Option (World_ × Int)) =>
  Let (x1.Kind == (7 : Int)) fun (x1272 : Bool) =>
  if x1272 = true then
  Let (x1263.Kind != (5 : Int)) fun (x1273 : Bool) =>
  if x1273 = true then
  some
  ({ Settings := { TimeStep := (0 : Int), Gravity := { X := (0 : Int), Y := (0 : Int) : Vec }, Iterations := (0 : Int), SleepSteps := (0 : Int) : Settings }, Bodies := [], Joints := [], Contacts := [], Overlaps := [], NextID := (0 : Int), Frame := (0 : Int) : World_ },
  (10 : Int))
  else
  j1271
  ({ Settings := { TimeStep := (0 : Int), Gravity := { X := (0 : Int), Y := (0 : Int) : Vec }, Iterations := (0 : Int), SleepSteps := (0 : Int) : Settings }, Bodies := [], Joints := [], Contacts := [], Overlaps := [], NextID := (0 : Int), Frame := (0 : Int) : World_ },
  { ID := x1263.ID, Kind := x1263.Kind, BodyA := x1263.BodyA, BodyB := x1263.BodyB, AnchorA := x1.Vec, AnchorB := x1263.AnchorB, Axis := x1263.Axis, ReferenceAngle := x1263.ReferenceAngle, EnableLimit := x1263.EnableLimit, Lower := x1263.Lower, Upper := x1263.Upper, EnableMotor := x1263.EnableMotor, MotorSpeed := x1263.MotorSpeed, MaxForce := x1263.MaxForce, Softness := x1263.Softness, BreakForce := x1263.BreakForce, CollideConnected := x1263.CollideConnected, Impulses := x1263.Impulses : Joint })
  else
  Let (!x1263.EnableMotor) fun (x1274 : Bool) =>
  if x1274 = true then
  some
  ({ Settings := { TimeStep := (0 : Int), Gravity := { X := (0 : Int), Y := (0 : Int) : Vec }, Iterations := (0 : Int), SleepSteps := (0 : Int) : Settings }, Bodies := [], Joints := [], Contacts := [], Overlaps := [], NextID := (0 : Int), Frame := (0 : Int) : World_ },
  (10 : Int))
  else
  j1271
  ({ Settings := { TimeStep := (0 : Int), Gravity := { X := (0 : Int), Y := (0 : Int) : Vec }, Iterations := (0 : Int), SleepSteps := (0 : Int) : Settings }, Bodies := [], Joints := [], Contacts := [], Overlaps := [], NextID := (0 : Int), Frame := (0 : Int) : World_ },
  { ID := x1263.ID, Kind := x1263.Kind, BodyA := x1263.BodyA, BodyB := x1263.BodyB, AnchorA := x1263.AnchorA, AnchorB := x1263.AnchorB, Axis := x1263.Axis, ReferenceAngle := x1263.ReferenceAngle, EnableLimit := x1263.EnableLimit, Lower := x1263.Lower, Upper := x1263.Upper, EnableMotor := x1263.EnableMotor, MotorSpeed := x1.Value, MaxForce := x1263.MaxForce, Softness := x1263.Softness, BreakForce := x1263.BreakForce, CollideConnected := x1263.CollideConnected, Impulses := x1263.Impulses : Joint }))

noncomputable def input_checkBody (b0 : Body) (x1 : Input) : Option Int :=
  Join (fun (v1275 : PUnit) => some (0 : Int)) fun (j1276 : PUnit → Option Int) =>
  Let (x1.Kind == (4 : Int)) fun (x1277 : Bool) =>
  if x1277 = true then
  Rx.Bind (transform_Valid { Position := x1.Vec, Angle := x1.Value : Transform }) fun (r1278 : Bool) =>
  Let (!r1278) fun (x1279 : Bool) => if x1279 = true then some (6 : Int) else j1276 ()
  else
  Let (x1.Kind == (5 : Int)) fun (x1280 : Bool) =>
  if x1280 = true then Let (b0.Kind == (1 : Int)) fun (x1281 : Bool) => if x1281 = true then some (10 : Int) else j1276 ()
  else Let (b0.Kind != (3 : Int)) fun (x1282 : Bool) => if x1282 = true then some (10 : Int) else j1276 ()

noncomputable def fixed_Mul (a0 : Int) (b1 : Int) : Option Int :=
  Rx.Bind (fixed_Saturate a0) fun (r1283 : Int) =>
  Rx.Bind (fixed_Saturate b1) fun (r1284 : Int) =>
  Let (IntKind.i64.wrap (r1283 * r1284)) fun (x1285 : Int) =>
  Rx.Bind (fixed_RoundDiv x1285 (65536 : Int)) fun (r1286 : Int) =>
  Rx.Bind (fixed_Saturate r1286) fun (r1287 : Int) => some r1287

noncomputable def massdata_ofCircle (s0 : Shape) (density1 : Int) : Option MassData :=
  Rx.Bind (fixed_Mul s0.Radius s0.Radius) fun (r1288 : Int) =>
  Rx.Bind (fixed_Mul (205888 : Int) r1288) fun (r1289 : Int) =>
  Rx.Bind (fixed_Mul r1289 density1) fun (r1290 : Int) =>
  Chk ((0 : Int) ≤ (0 : Int) ∧ (0 : Int) < (↑s0.Vertices.length : Int))
  (Let (ix s0.Vertices (0 : Int)) fun (x1291 : Vec) =>
  Rx.Bind (fixed_RoundDiv r1288 (2 : Int)) fun (r1292 : Int) =>
  Rx.Bind (fixed_Mul r1290 r1292) fun (r1293 : Int) =>
  some { Mass := r1290, Center := x1291, Inertia := r1293 : MassData })

noncomputable def fixed_Add (a0 : Int) (b1 : Int) : Option Int :=
  Rx.Bind (fixed_Saturate a0) fun (r1294 : Int) =>
  Rx.Bind (fixed_Saturate b1) fun (r1295 : Int) =>
  Let (IntKind.i64.wrap (r1294 + r1295)) fun (x1296 : Int) =>
  Rx.Bind (fixed_Saturate x1296) fun (r1297 : Int) => some r1297

noncomputable def fixed_Lerp (a0 : Int) (b1 : Int) (t2 : Int) : Option Int :=
  Rx.Bind (fixed_Sub b1 a0) fun (r1298 : Int) =>
  Rx.Bind (fixed_Mul r1298 t2) fun (r1299 : Int) => Rx.Bind (fixed_Add a0 r1299) fun (r1300 : Int) => some r1300

noncomputable def vec2_Lerp (a0 : Vec) (b1 : Vec) (t2 : Int) : Option Vec :=
  Rx.Bind (fixed_Lerp a0.X b1.X t2) fun (r1301 : Int) =>
  Rx.Bind (fixed_Lerp a0.Y b1.Y t2) fun (r1302 : Int) => some { X := r1301, Y := r1302 : Vec }

noncomputable def massdata_ofCapsule (s0 : Shape) (density1 : Int) : Option MassData :=
  Rx.Bind (fixed_Mul s0.Radius s0.Radius) fun (r1303 : Int) =>
  Chk ((0 : Int) ≤ (1 : Int) ∧ (1 : Int) < (↑s0.Vertices.length : Int))
  (Let (ix s0.Vertices (1 : Int)) fun (x1304 : Vec) =>
  Chk ((0 : Int) ≤ (0 : Int) ∧ (0 : Int) < (↑s0.Vertices.length : Int))
  (Let (ix s0.Vertices (0 : Int)) fun (x1305 : Vec) =>
  Rx.Bind (vec2_Sub x1304 x1305) fun (r1306 : Vec) =>
  Rx.Bind (vec2_Length r1306) fun (r1307 : Int) =>
  Rx.Bind (fixed_Mul (205888 : Int) r1303) fun (r1308 : Int) =>
  Rx.Bind (fixed_Add s0.Radius s0.Radius) fun (r1309 : Int) =>
  Rx.Bind (fixed_Mul r1309 r1307) fun (r1310 : Int) =>
  Rx.Bind (fixed_Add r1308 r1310) fun (r1311 : Int) =>
  Rx.Bind (fixed_Mul r1311 density1) fun (r1312 : Int) =>
  Rx.Bind (fixed_RoundDiv r1303 (2 : Int)) fun (r1313 : Int) =>
  Rx.Bind (fixed_Mul r1307 r1307) fun (r1314 : Int) =>
  Rx.Bind (fixed_RoundDiv r1314 (12 : Int)) fun (r1315 : Int) =>
  Rx.Bind (fixed_Add r1313 r1315) fun (r1316 : Int) =>
  Chk ((0 : Int) ≤ (0 : Int) ∧ (0 : Int) < (↑s0.Vertices.length : Int))
  (Let (ix s0.Vertices (0 : Int)) fun (x1317 : Vec) =>
  Chk ((0 : Int) ≤ (1 : Int) ∧ (1 : Int) < (↑s0.Vertices.length : Int))
  (Let (ix s0.Vertices (1 : Int)) fun (x1318 : Vec) =>
  Rx.Bind (vec2_Lerp x1317 x1318 (32768 : Int)) fun (r1319 : Vec) =>
  Rx.Bind (fixed_Mul r1312 r1316) fun (r1320 : Int) =>
  some { Mass := r1312, Center := r1319, Inertia := r1320 : MassData }))))

noncomputable def polygon_Centroid (vertices0 : (List Vec)) : Option Vec :=
  Rx.Bind (polygon_IsConvex vertices0) fun (r1321 : Bool) =>
  Let (!r1321) fun (x1322 : Bool) =>
  if x1322 = true then some { X := (0 : Int), Y := (0 : Int) : Vec }
  else
  Rx.Bind (polygon_fan vertices0) fun (r1323 : List polygon_triangle × Int) =>
  Let (r1323.snd == (0 : Int)) fun (x1324 : Bool) =>
  if x1324 = true then
  Chk ((0 : Int) ≤ (0 : Int) ∧ (0 : Int) < (↑vertices0.length : Int))
  (Let (ix vertices0 (0 : Int)) fun (x1325 : Vec) => some x1325)
  else
  Let (↑(List.length r1323.fst) : Int) fun (x1326 : Int) =>
  LOOP
  (fun (rec1327 : Int × Int × Int → Option Vec) (s1328 : Int × Int × Int) =>
  Let (decide (s1328.snd.snd < x1326)) fun (x1329 : Bool) =>
  if x1329 = true then
  Chk ((0 : Int) ≤ s1328.snd.snd ∧ s1328.snd.snd < (↑(List.length r1323.fst) : Int))
  (Let (ix r1323.fst s1328.snd.snd) fun (x1330 : polygon_triangle) =>
  Let (IntKind.i64.wrap (x1330.e.X + x1330.f.X)) fun (x1331 : Int) =>
  Let (IntKind.i64.wrap (x1331 * x1330.cross)) fun (x1332 : Int) =>
  Let (IntKind.i64.wrap (s1328.fst + x1332)) fun (x1333 : Int) =>
  Let (IntKind.i64.wrap (x1330.e.Y + x1330.f.Y)) fun (x1334 : Int) =>
  Let (IntKind.i64.wrap (x1334 * x1330.cross)) fun (x1335 : Int) =>
  Let (IntKind.i64.wrap (s1328.snd.fst + x1335)) fun (x1336 : Int) =>
  Let (IntKind.i64.wrap (s1328.snd.snd + (1 : Int))) fun (x1337 : Int) => rec1327 (x1333, x1336, x1337))
  else
  Chk ((0 : Int) ≤ (0 : Int) ∧ (0 : Int) < (↑vertices0.length : Int))
  (Let (ix vertices0 (0 : Int)) fun (x1338 : Vec) =>
  Let (IntKind.i64.wrap ((3 : Int) * r1323.snd)) fun (x1339 : Int) =>
  Rx.Bind (fixed_RoundDiv s1328.fst x1339) fun (r1340 : Int) =>
  Let (IntKind.i64.wrap (x1338.X + r1340)) fun (x1341 : Int) =>
  Chk ((0 : Int) ≤ (0 : Int) ∧ (0 : Int) < (↑vertices0.length : Int))
  (Let (ix vertices0 (0 : Int)) fun (x1342 : Vec) =>
  Let (IntKind.i64.wrap ((3 : Int) * r1323.snd)) fun (x1343 : Int) =>
  Rx.Bind (fixed_RoundDiv s1328.snd.fst x1343) fun (r1344 : Int) =>
  Let (IntKind.i64.wrap (x1342.Y + r1344)) fun (x1345 : Int) => some { X := x1341, Y := x1345 : Vec })))
  fuel ((0 : Int), (0 : Int), (0 : Int))

noncomputable def vec2_product (n0 : Int) : Option Int :=
  Rx.Bind (fixed_RoundDiv n0 (65536 : Int)) fun (r1346 : Int) =>
  Rx.Bind (fixed_Saturate r1346) fun (r1347 : Int) => some r1347

noncomputable def vec2_Cross (a0 : Vec) (b1 : Vec) : Option Int :=
  Rx.Bind (vec2_saturate a0) fun (r1348 : Vec) =>
  Rx.Bind (vec2_saturate b1) fun (r1349 : Vec) =>
  Let (IntKind.i64.wrap (r1348.X * r1349.Y)) fun (x1350 : Int) =>
  Let (IntKind.i64.wrap (r1348.Y * r1349.X)) fun (x1351 : Int) =>
  Let (IntKind.i64.wrap (x1350 - x1351)) fun (x1352 : Int) => Rx.Bind (vec2_product x1352) fun (r1353 : Int) => some r1353

noncomputable def vec2_Dot (a0 : Vec) (b1 : Vec) : Option Int :=
  Rx.Bind (vec2_saturate a0) fun (r1354 : Vec) =>
  Rx.Bind (vec2_saturate b1) fun (r1355 : Vec) =>
  Let (IntKind.i64.wrap (r1354.X * r1355.X)) fun (x1356 : Int) =>
  Let (IntKind.i64.wrap (r1354.Y * r1355.Y)) fun (x1357 : Int) =>
  Let (IntKind.i64.wrap (x1356 + x1357)) fun (x1358 : Int) => Rx.Bind (vec2_product x1358) fun (r1359 : Int) => some r1359

noncomputable def massdata_ofPolygon (s0 : Shape) (density1 : Int) : Option MassData :=
  Rx.Bind (polygon_Area s0.Vertices) fun (r1360 : Int) =>
  Rx.Bind (fixed_Mul r1360 density1) fun (r1361 : Int) =>
  Rx.Bind (polygon_Centroid s0.Vertices) fun (r1362 : Vec) =>
  Let (↑s0.Vertices.length : Int) fun (x1363 : Int) =>
  Let (IntKind.i64.wrap (x1363 - (1 : Int))) fun (x1364 : Int) =>
  Chk ((0 : Int) ≤ x1364 ∧ x1364 < (↑s0.Vertices.length : Int))
  (Let (ix s0.Vertices x1364) fun (x1365 : Vec) =>
  Rx.Bind (vec2_Sub x1365 r1362) fun (r1366 : Vec) =>
  Let (↑s0.Vertices.length : Int) fun (x1367 : Int) =>
  LOOP
  (fun (rec1368 : Int × Int × Int × Vec → Option MassData) (s1369 : Int × Int × Int × Vec) =>
  Let (decide (s1369.snd.snd.fst < x1367)) fun (x1370 : Bool) =>
  if x1370 = true then
  Chk ((0 : Int) ≤ s1369.snd.snd.fst ∧ s1369.snd.snd.fst < (↑s0.Vertices.length : Int))
  (Let (ix s0.Vertices s1369.snd.snd.fst) fun (x1371 : Vec) =>
  Rx.Bind (vec2_Sub x1371 r1362) fun (r1372 : Vec) =>
  Rx.Bind (vec2_Cross s1369.snd.snd.snd r1372) fun (r1373 : Int) =>
  Rx.Bind (vec2_Dot s1369.snd.snd.snd s1369.snd.snd.snd) fun (r1374 : Int) =>
  Rx.Bind (vec2_Dot s1369.snd.snd.snd r1372) fun (r1375 : Int) =>
  Let (IntKind.i64.wrap (r1374 + r1375)) fun (x1376 : Int) =>
  Rx.Bind (vec2_Dot r1372 r1372) fun (r1377 : Int) =>
  Let (IntKind.i64.wrap (x1376 + r1377)) fun (x1378 : Int) =>
  Let (IntKind.i64.wrap (r1373 * x1378)) fun (x1379 : Int) =>
  Let (IntKind.i64.wrap (s1369.fst + x1379)) fun (x1380 : Int) =>
  Let (IntKind.i64.wrap (s1369.snd.fst + r1373)) fun (x1381 : Int) =>
  Let (IntKind.i64.wrap (s1369.snd.snd.fst + (1 : Int))) fun (x1382 : Int) => rec1368 (x1380, x1381, x1382, r1372))
  else
  Let (decide (s1369.snd.fst < (1 : Int))) fun (x1383 : Bool) =>
  if x1383 = true then some { Mass := r1361, Center := r1362, Inertia := (0 : Int) : MassData }
  else
  Rx.Bind (fixed_RoundDiv s1369.fst s1369.snd.fst) fun (r1384 : Int) =>
  Rx.Bind (fixed_RoundDiv r1384 (6 : Int)) fun (r1385 : Int) =>
  Rx.Bind (fixed_Mul r1361 r1385) fun (r1386 : Int) =>
  some { Mass := r1361, Center := r1362, Inertia := r1386 : MassData })
  fuel ((0 : Int), (0 : Int), (0 : Int), r1366))

noncomputable def massdata_OfShape (s0 : Shape) (density1 : Int) : Option MassData :=
  Rx.Bind (shape_Validate s0) fun (r1387 : Int) =>
  Let (r1387 != (0 : Int)) fun (x1388 : Bool) =>
  Let (decide (density1 < (0 : Int))) fun (x1389 : Bool) =>
  Let (bif x1388 then true else x1389) fun (x1390 : Bool) =>
  Let (decide (density1 > (262144 : Int))) fun (x1391 : Bool) =>
  Let (bif x1390 then true else x1391) fun (x1392 : Bool) =>
  if x1392 = true then
  some { Mass := (0 : Int), Center := { X := (0 : Int), Y := (0 : Int) : Vec }, Inertia := (0 : Int) : MassData }
  else
  Let (s0.Kind == (1 : Int)) fun (x1393 : Bool) =>
  if x1393 = true then Rx.Bind (massdata_ofCircle s0 density1) fun (r1394 : MassData) => some r1394
  else
  Let (s0.Kind == (2 : Int)) fun (x1395 : Bool) =>
  if x1395 = true then Rx.Bind (massdata_ofCapsule s0 density1) fun (r1396 : MassData) => some r1396
  else Rx.Bind (massdata_ofPolygon s0 density1) fun (r1397 : MassData) => some r1397

noncomputable def slices_IndexFunc_271 (s0 : (List MassData)) (f1 : (MassData → Option Bool)) : Option Int :=
  Let (↑s0.length : Int) fun (x1398 : Int) =>
  LOOP
  (fun (rec1399 : Int → Option Int) (s1400 : Int) =>
  Let (decide (s1400 < x1398)) fun (x1401 : Bool) =>
  if x1401 = true then
  Chk ((0 : Int) ≤ s1400 ∧ s1400 < (↑s0.length : Int))
  (Let (ix s0 s1400) fun (x1402 : MassData) =>
  Rx.Bind (f1 x1402) fun (r1403 : Bool) =>
  if r1403 = true then some s1400 else Let (IntKind.i64.wrap (s1400 + (1 : Int))) fun (x1404 : Int) => rec1399 x1404)
  else some (-1 : Int))
  fuel (0 : Int)

noncomputable def slices_ContainsFunc_265 (s0 : (List MassData)) (f1 : (MassData → Option Bool)) : Option Bool :=
  Rx.Bind (slices_IndexFunc_271 s0 f1) fun (r1405 : Int) =>
  Let (decide (r1405 ≥ (0 : Int))) fun (x1406 : Bool) => some x1406

noncomputable def massdata_Combine_1 (p0 : MassData) : Option Bool :=
  Let (decide (p0.Mass < (0 : Int))) fun (x1407 : Bool) => some x1407

noncomputable def massdata_Combine (parts0 : (List MassData)) : Option MassData :=
  Let (↑parts0.length : Int) fun (x1408 : Int) =>
  Let (decide (x1408 > (8 : Int))) fun (x1409 : Bool) =>
  Rx.Bind
  (if (x1409 == false) = true then slices_ContainsFunc_265 parts0 fun (a : Tup tb [Ix.tMassData]) => massdata_Combine_1 a
  else some default)
  fun (r1410 : Bool) =>
  Let (bif x1409 then true else r1410) fun (x1411 : Bool) =>
  if x1411 = true then
  some { Mass := (0 : Int), Center := { X := (0 : Int), Y := (0 : Int) : Vec }, Inertia := (0 : Int) : MassData }
  else
  Let (↑parts0.length : Int) fun (x1412 : Int) =>
  LOOP
  (fun (rec1413 : Int × Int × Int × Int × MassData → Option MassData) (s1414 : Int × Int × Int × Int × MassData) =>
  Let (decide (s1414.snd.snd.snd.fst < x1412)) fun (x1415 : Bool) =>
  if x1415 = true then
  Chk ((0 : Int) ≤ s1414.snd.snd.snd.fst ∧ s1414.snd.snd.snd.fst < (↑parts0.length : Int))
  (Let (ix parts0 s1414.snd.snd.snd.fst) fun (x1416 : MassData) =>
  Rx.Bind (fixed_Saturate x1416.Mass) fun (r1417 : Int) =>
  Rx.Bind (fixed_Add s1414.snd.snd.snd.snd.Mass r1417) fun (r1418 : Int) =>
  Let (IntKind.i64.wrap (s1414.fst + r1417)) fun (x1419 : Int) =>
  Rx.Bind (fixed_Saturate x1416.Center.X) fun (r1420 : Int) =>
  Let (IntKind.i64.wrap (r1417 * r1420)) fun (x1421 : Int) =>
  Let (IntKind.i64.wrap (s1414.snd.fst + x1421)) fun (x1422 : Int) =>
  Rx.Bind (fixed_Saturate x1416.Center.Y) fun (r1423 : Int) =>
  Let (IntKind.i64.wrap (r1417 * r1423)) fun (x1424 : Int) =>
  Let (IntKind.i64.wrap (s1414.snd.snd.fst + x1424)) fun (x1425 : Int) =>
  Let (IntKind.i64.wrap (s1414.snd.snd.snd.fst + (1 : Int))) fun (x1426 : Int) =>
  rec1413
  (x1419, x1422, x1425, x1426,
  { Mass := r1418, Center := s1414.snd.snd.snd.snd.Center, Inertia := s1414.snd.snd.snd.snd.Inertia : MassData }))
  else
  Join
  (fun (v1427 : MassData) =>
  Let (↑parts0.length : Int) fun (x1428 : Int) =>
  LOOP
  (fun (rec1429 : Int × MassData → Option MassData) (s1430 : Int × MassData) =>
  Let (decide (s1430.fst < x1428)) fun (x1431 : Bool) =>
  if x1431 = true then
  Chk ((0 : Int) ≤ s1430.fst ∧ s1430.fst < (↑parts0.length : Int))
  (Let (ix parts0 s1430.fst) fun (x1432 : MassData) =>
  Rx.Bind (vec2_Sub x1432.Center s1430.snd.Center) fun (r1433 : Vec) =>
  Rx.Bind (fixed_Add s1430.snd.Inertia x1432.Inertia) fun (r1434 : Int) =>
  Rx.Bind (vec2_Dot r1433 r1433) fun (r1435 : Int) =>
  Rx.Bind (fixed_Mul x1432.Mass r1435) fun (r1436 : Int) =>
  Rx.Bind (fixed_Add r1434 r1436) fun (r1437 : Int) =>
  Let (IntKind.i64.wrap (s1430.fst + (1 : Int))) fun (x1438 : Int) =>
  rec1429 (x1438, { Mass := s1430.snd.Mass, Center := s1430.snd.Center, Inertia := r1437 : MassData }))
  else some s1430.snd)
  fuel ((0 : Int), v1427))
  fun (j1439 : MassData → Option MassData) =>
  Let (decide (s1414.fst > (0 : Int))) fun (x1440 : Bool) =>
  if x1440 = true then
  Rx.Bind (fixed_RoundDiv s1414.snd.fst s1414.fst) fun (r1441 : Int) =>
  Rx.Bind (fixed_RoundDiv s1414.snd.snd.fst s1414.fst) fun (r1442 : Int) =>
  j1439
  { Mass := s1414.snd.snd.snd.snd.Mass, Center := { X := r1441, Y := r1442 : Vec }, Inertia := s1414.snd.snd.snd.snd.Inertia : MassData }
  else j1439 s1414.snd.snd.snd.snd)
  fuel
  ((0 : Int), (0 : Int), (0 : Int), (0 : Int),
  { Mass := (0 : Int), Center := { X := (0 : Int), Y := (0 : Int) : Vec }, Inertia := (0 : Int) : MassData })

noncomputable def massdata_OfFixtures (fixtures0 : (List Fixture)) : Option MassData :=
  Let (↑fixtures0.length : Int) fun (x1443 : Int) =>
  Let (decide (x1443 > (4 : Int))) fun (x1444 : Bool) =>
  if x1444 = true then
  some { Mass := (0 : Int), Center := { X := (0 : Int), Y := (0 : Int) : Vec }, Inertia := (0 : Int) : MassData }
  else
  Let (↑fixtures0.length : Int) fun (x1445 : Int) =>
  LOOP
  (fun (rec1446 : List MassData × Int → Option MassData) (s1447 : List MassData × Int) =>
  Let (decide (s1447.snd < x1445)) fun (x1448 : Bool) =>
  if x1448 = true then
  Join
  (fun (v1449 : List MassData) =>
  Let (IntKind.i64.wrap (s1447.snd + (1 : Int))) fun (x1450 : Int) => rec1446 (v1449, x1450))
  fun (j1451 : List MassData → Option MassData) =>
  Chk ((0 : Int) ≤ s1447.snd ∧ s1447.snd < (↑fixtures0.length : Int))
  (Let (ix fixtures0 s1447.snd) fun (x1452 : Fixture) =>
  Let (!x1452.Sensor) fun (x1453 : Bool) =>
  if x1453 = true then
  Rx.Bind (massdata_OfShape x1452.Shape x1452.Density) fun (r1454 : MassData) =>
  Chk ((List.length s1447.fst + [r1454].length) * (32 : Nat) ≤ (140737488355328 : Nat))
  (Let (s1447.fst ++ [r1454]) fun (x1455 : List MassData) => j1451 x1455)
  else j1451 s1447.fst)
  else Rx.Bind (massdata_Combine s1447.fst) fun (r1456 : MassData) => some r1456)
  fuel ([], (0 : Int))

noncomputable def body_MassData (b0 : Body) : Option MassData :=
  Rx.Bind (massdata_OfFixtures b0.Fixtures) fun (r1457 : MassData) => some r1457

noncomputable def angle_Normalize (a0 : Int) : Option Int :=
  Let (a0.tmod (411776 : Int)) fun (x1458 : Int) =>
  Let (decide (x1458 ≥ (205888 : Int))) fun (x1459 : Bool) =>
  if x1459 = true then Let (IntKind.i64.wrap (x1458 - (411776 : Int))) fun (x1460 : Int) => some x1460
  else
  Let (decide (x1458 < (-205888 : Int))) fun (x1461 : Bool) =>
  if x1461 = true then Let (IntKind.i64.wrap (x1458 + (411776 : Int))) fun (x1462 : Int) => some x1462 else some x1458

noncomputable def angle_abs (x0 : Int) : Option Int :=
  Let (decide (x0 < (0 : Int))) fun (x1463 : Bool) =>
  if x1463 = true then Let (IntKind.i64.wrap ((0 : Int) - x0)) fun (x1464 : Int) => some x1464 else some x0

noncomputable def fixed_Clamp (x0 : Int) (low1 : Int) (high2 : Int) : Option Int :=
  Let (decide (low1 > high2)) fun (x1465 : Bool) =>
  Let (decide (x0 < low1)) fun (x1466 : Bool) =>
  Let (bif x1465 then true else x1466) fun (x1467 : Bool) =>
  if x1467 = true then some low1
  else Let (decide (x0 > high2)) fun (x1468 : Bool) => if x1468 = true then some high2 else some x0

noncomputable def fixed_Div (a0 : Int) (b1 : Int) : Option Int :=
  Rx.Bind (fixed_Saturate a0) fun (r1469 : Int) =>
  Let (IntKind.i64.wrap (r1469 * (65536 : Int))) fun (x1470 : Int) =>
  Rx.Bind (fixed_Saturate b1) fun (r1471 : Int) =>
  Join
  (fun (v1472 : Int × Int) =>
  Rx.Bind (fixed_RoundDiv v1472.fst v1472.snd) fun (r1473 : Int) =>
  Rx.Bind (fixed_Saturate r1473) fun (r1474 : Int) => some r1474)
  fun (j1475 : Int × Int → Option Int) =>
  Let (r1471 == (0 : Int)) fun (x1476 : Bool) =>
  if x1476 = true then
  Rx.Bind (fixed_Clamp x1470 (-1 : Int) (1 : Int)) fun (r1477 : Int) =>
  Let (IntKind.i64.wrap (r1477 * (536870911 : Int))) fun (x1478 : Int) => some x1478
  else
  Let (decide (r1471 < (0 : Int))) fun (x1479 : Bool) =>
  if x1479 = true then
  Let (IntKind.i64.wrap ((0 : Int) - x1470)) fun (x1480 : Int) =>
  Let (IntKind.i64.wrap ((0 : Int) - r1471)) fun (x1481 : Int) => j1475 (x1480, x1481)
  else j1475 (x1470, r1471)

noncomputable def angle_Sin (a0 : Int) : Option Int :=
  Rx.Bind (angle_Normalize a0) fun (r1482 : Int) =>
  Rx.Bind (angle_abs r1482) fun (r1483 : Int) =>
  Join
  (fun (v1484 : Int) =>
  Rx.Bind (fixed_Div v1484 (102944 : Int)) fun (r1485 : Int) =>
  Rx.Bind (fixed_Mul r1485 r1485) fun (r1486 : Int) =>
  Rx.Bind (fixed_Mul r1486 (4569 : Int)) fun (r1487 : Int) =>
  Rx.Bind (fixed_Sub (41906 : Int) r1487) fun (r1488 : Int) =>
  Rx.Bind (fixed_Mul r1486 r1488) fun (r1489 : Int) =>
  Rx.Bind (fixed_Sub (102873 : Int) r1489) fun (r1490 : Int) =>
  Rx.Bind (fixed_Mul r1485 r1490) fun (r1491 : Int) =>
  Let (decide (r1482 < (0 : Int))) fun (x1492 : Bool) =>
  if x1492 = true then Let (IntKind.i64.wrap ((0 : Int) - r1491)) fun (x1493 : Int) => some x1493 else some r1491)
  fun (j1494 : Int → Option Int) =>
  Let (decide (r1483 > (102944 : Int))) fun (x1495 : Bool) =>
  if x1495 = true then Let (IntKind.i64.wrap ((205888 : Int) - r1483)) fun (x1496 : Int) => j1494 x1496 else j1494 r1483

noncomputable def angle_Cos (a0 : Int) : Option Int :=
  Rx.Bind (angle_Normalize a0) fun (r1497 : Int) =>
  Rx.Bind (angle_abs r1497) fun (r1498 : Int) =>
  Let (IntKind.i64.wrap ((102944 : Int) - r1498)) fun (x1499 : Int) =>
  Rx.Bind (angle_Sin x1499) fun (r1500 : Int) => some r1500

noncomputable def angle_Rot (a0 : Int) : Option Rot :=
  Rx.Bind (angle_Cos a0) fun (r1501 : Int) =>
  Rx.Bind (angle_Sin a0) fun (r1502 : Int) =>
  Let (IntKind.i64.wrap (r1501 * r1501)) fun (x1503 : Int) =>
  Let (IntKind.i64.wrap (r1502 * r1502)) fun (x1504 : Int) =>
  Let (IntKind.i64.wrap (x1503 + x1504)) fun (x1505 : Int) =>
  Rx.Bind (fixed_Isqrt x1505) fun (r1506 : Int) =>
  Rx.Bind (fixed_Div r1501 r1506) fun (r1507 : Int) =>
  Rx.Bind (fixed_Div r1502 r1506) fun (r1508 : Int) => some { Cos := r1507, Sin := r1508 : Rot }

noncomputable def vec2_Rotate (r0 : Rot) (v1 : Vec) : Option Vec :=
  Rx.Bind (fixed_Saturate r0.Cos) fun (r1509 : Int) =>
  Rx.Bind (fixed_Saturate r0.Sin) fun (r1510 : Int) =>
  Rx.Bind (vec2_saturate v1) fun (r1511 : Vec) =>
  Let (IntKind.i64.wrap (r1509 * r1511.X)) fun (x1512 : Int) =>
  Let (IntKind.i64.wrap (r1510 * r1511.Y)) fun (x1513 : Int) =>
  Let (IntKind.i64.wrap (x1512 - x1513)) fun (x1514 : Int) =>
  Rx.Bind (vec2_product x1514) fun (r1515 : Int) =>
  Let (IntKind.i64.wrap (r1510 * r1511.X)) fun (x1516 : Int) =>
  Let (IntKind.i64.wrap (r1509 * r1511.Y)) fun (x1517 : Int) =>
  Let (IntKind.i64.wrap (x1516 + x1517)) fun (x1518 : Int) =>
  Rx.Bind (vec2_product x1518) fun (r1519 : Int) => some { X := r1515, Y := r1519 : Vec }

noncomputable def vec2_Add (a0 : Vec) (b1 : Vec) : Option Vec :=
  Rx.Bind (fixed_Add a0.X b1.X) fun (r1520 : Int) =>
  Rx.Bind (fixed_Add a0.Y b1.Y) fun (r1521 : Int) => some { X := r1520, Y := r1521 : Vec }

noncomputable def transform_Apply (t0 : Transform) (v1 : Vec) : Option Vec :=
  Rx.Bind (angle_Rot t0.Angle) fun (r1522 : Rot) =>
  Rx.Bind (vec2_Rotate r1522 v1) fun (r1523 : Vec) => Rx.Bind (vec2_Add r1523 t0.Position) fun (r1524 : Vec) => some r1524

noncomputable def body_WorldCenter (b0 : Body) : Option Vec :=
  Rx.Bind (body_MassData b0) fun (r1525 : MassData) =>
  Rx.Bind (transform_Apply b0.Transform r1525.Center) fun (r1526 : Vec) => some r1526

noncomputable def massdata_Inverse (m0 : MassData) (kind1 : Int) (fixedRotation2 : Bool) : Option (Int × Int) :=
  Let (kind1 != (3 : Int)) fun (x1527 : Bool) =>
  if x1527 = true then some ((0 : Int), (0 : Int))
  else
  Join
  (fun (v1528 : Int) =>
  Join (fun (v1529 : Int) => some (v1528, v1529)) fun (j1530 : Int → Option (Int × Int)) =>
  Let (decide (m0.Inertia > (0 : Int))) fun (x1531 : Bool) =>
  Let (!fixedRotation2) fun (x1532 : Bool) =>
  Let (bif x1531 then x1532 else false) fun (x1533 : Bool) =>
  if x1533 = true then Rx.Bind (fixed_Div (65536 : Int) m0.Inertia) fun (r1534 : Int) => j1530 r1534 else j1530 (0 : Int))
  fun (j1535 : Int → Option (Int × Int)) =>
  Let (decide (m0.Mass > (0 : Int))) fun (x1536 : Bool) =>
  if x1536 = true then Rx.Bind (fixed_Div (65536 : Int) m0.Mass) fun (r1537 : Int) => j1535 r1537 else j1535 (65536 : Int)

noncomputable def body_SolverBody (b0 : Body) : Option SolverBody :=
  Rx.Bind (body_MassData b0) fun (r1538 : MassData) =>
  Rx.Bind (massdata_Inverse r1538 b0.Kind b0.FixedRotation) fun (r1539 : Int × Int) =>
  some
  { Velocity := b0.Velocity, AngularVelocity := b0.AngularVelocity, InvMass := r1539.fst, InvInertia := r1539.snd : SolverBody }

noncomputable def vec2_Scale (v0 : Vec) (k1 : Int) : Option Vec :=
  Rx.Bind (fixed_Mul v0.X k1) fun (r1540 : Int) =>
  Rx.Bind (fixed_Mul v0.Y k1) fun (r1541 : Int) => some { X := r1540, Y := r1541 : Vec }

noncomputable def body_ClampVelocity (b0 : Body) : Option Body :=
  Rx.Bind (fixed_Clamp b0.Velocity.X (-16777216 : Int) (16777216 : Int)) fun (r1542 : Int) =>
  Rx.Bind (fixed_Clamp b0.Velocity.Y (-16777216 : Int) (16777216 : Int)) fun (r1543 : Int) =>
  Rx.Bind (fixed_Clamp b0.AngularVelocity (-4194304 : Int) (4194304 : Int)) fun (r1544 : Int) =>
  some
  { ID := b0.ID, Kind := b0.Kind, Transform := b0.Transform, Velocity := { X := r1542, Y := r1543 : Vec }, AngularVelocity := r1544, Force := b0.Force, Torque := b0.Torque, LinearDamping := b0.LinearDamping, AngularDamping := b0.AngularDamping, GravityScale := b0.GravityScale, Bullet := b0.Bullet, FixedRotation := b0.FixedRotation, NoSleep := b0.NoSleep, Asleep := b0.Asleep, IdleSteps := b0.IdleSteps, Fixtures := b0.Fixtures : Body }

noncomputable def body_awake (b0 : Body) : Option Body :=
  Rx.Bind (body_ClampVelocity b0) fun (r1545 : Body) =>
  some
  { ID := r1545.ID, Kind := r1545.Kind, Transform := r1545.Transform, Velocity := r1545.Velocity, AngularVelocity := r1545.AngularVelocity, Force := r1545.Force, Torque := r1545.Torque, LinearDamping := r1545.LinearDamping, AngularDamping := r1545.AngularDamping, GravityScale := r1545.GravityScale, Bullet := r1545.Bullet, FixedRotation := r1545.FixedRotation, NoSleep := r1545.NoSleep, Asleep := false, IdleSteps := (0 : Int), Fixtures := r1545.Fixtures : Body }

noncomputable def body_ApplyImpulse (b0 : Body) (point1 : Vec) (impulse2 : Vec) : Option Body :=
  Let (b0.Kind != (3 : Int)) fun (x1546 : Bool) =>
  if x1546 = true then some b0
  else
  Rx.Bind (body_SolverBody b0) fun (r1547 : SolverBody) =>
  Rx.Bind (body_WorldCenter b0) fun (r1548 : Vec) =>
  Rx.Bind (vec2_Sub point1 r1548) fun (r1549 : Vec) =>
  Rx.Bind (vec2_Scale impulse2 r1547.InvMass) fun (r1550 : Vec) =>
  Rx.Bind (vec2_Add b0.Velocity r1550) fun (r1551 : Vec) =>
  Rx.Bind (vec2_Cross r1549 impulse2) fun (r1552 : Int) =>
  Rx.Bind (fixed_Mul r1552 r1547.InvInertia) fun (r1553 : Int) =>
  Rx.Bind (fixed_Add b0.AngularVelocity r1553) fun (r1554 : Int) =>
  Rx.Bind
  (body_awake
  { ID := b0.ID, Kind := b0.Kind, Transform := b0.Transform, Velocity := r1551, AngularVelocity := r1554, Force := b0.Force, Torque := b0.Torque, LinearDamping := b0.LinearDamping, AngularDamping := b0.AngularDamping, GravityScale := b0.GravityScale, Bullet := b0.Bullet, FixedRotation := b0.FixedRotation, NoSleep := b0.NoSleep, Asleep := b0.Asleep, IdleSteps := b0.IdleSteps, Fixtures := b0.Fixtures : Body })
  fun (r1555 : Body) => some r1555

noncomputable def body_ApplyAngularImpulse (b0 : Body) (impulse1 : Int) : Option Body :=
  Let (b0.Kind != (3 : Int)) fun (x1556 : Bool) =>
  if x1556 = true then some b0
  else
  Rx.Bind (body_SolverBody b0) fun (r1557 : SolverBody) =>
  Rx.Bind (fixed_Mul impulse1 r1557.InvInertia) fun (r1558 : Int) =>
  Rx.Bind (fixed_Add b0.AngularVelocity r1558) fun (r1559 : Int) =>
  Rx.Bind
  (body_awake
  { ID := b0.ID, Kind := b0.Kind, Transform := b0.Transform, Velocity := b0.Velocity, AngularVelocity := r1559, Force := b0.Force, Torque := b0.Torque, LinearDamping := b0.LinearDamping, AngularDamping := b0.AngularDamping, GravityScale := b0.GravityScale, Bullet := b0.Bullet, FixedRotation := b0.FixedRotation, NoSleep := b0.NoSleep, Asleep := b0.Asleep, IdleSteps := b0.IdleSteps, Fixtures := b0.Fixtures : Body })
  fun (r1560 : Body) => some r1560

noncomputable def input_changed (b0 : Body) (x1 : Input) : Option Body :=
  Join (fun (v1561 : Body × Body) => some v1561.fst) fun (j1562 : Body × Body → Option Body) =>
  Let (x1.Kind == (1 : Int)) fun (x1563 : Bool) =>
  if x1563 = true then
  Rx.Bind (body_WorldCenter b0) fun (r1564 : Vec) =>
  Rx.Bind (body_ApplyImpulse b0 r1564 x1.Vec) fun (r1565 : Body) => some r1565
  else
  Let (x1.Kind == (3 : Int)) fun (x1566 : Bool) =>
  if x1566 = true then Rx.Bind (body_ApplyAngularImpulse b0 x1.Value) fun (r1567 : Body) => some r1567
  else
  Let (x1.Kind == (2 : Int)) fun (x1568 : Bool) =>
  if x1568 = true then
  Rx.Bind (vec2_Add b0.Force x1.Vec) fun (r1569 : Vec) =>
  j1562
  ({ ID := b0.ID, Kind := b0.Kind, Transform := b0.Transform, Velocity := b0.Velocity, AngularVelocity := b0.AngularVelocity, Force := r1569, Torque := b0.Torque, LinearDamping := b0.LinearDamping, AngularDamping := b0.AngularDamping, GravityScale := b0.GravityScale, Bullet := b0.Bullet, FixedRotation := b0.FixedRotation, NoSleep := b0.NoSleep, Asleep := b0.Asleep, IdleSteps := b0.IdleSteps, Fixtures := b0.Fixtures : Body },
  { ID := (0 : Int), Kind := (0 : Int), Transform := { Position := { X := (0 : Int), Y := (0 : Int) : Vec }, Angle := (0 : Int) : Transform }, Velocity := { X := (0 : Int), Y := (0 : Int) : Vec }, AngularVelocity := (0 : Int), Force := { X := (0 : Int), Y := (0 : Int) : Vec }, Torque := (0 : Int), LinearDamping := (0 : Int), AngularDamping := (0 : Int), GravityScale := (0 : Int), Bullet := false, FixedRotation := false, NoSleep := false, Asleep := false, IdleSteps := (0 : Int), Fixtures := [] : Body })
  else
  Let (x1.Kind == (4 : Int)) fun (x1570 : Bool) =>
  if x1570 = true then
  j1562
  ({ ID := b0.ID, Kind := b0.Kind, Transform := { Position := x1.Vec, Angle := x1.Value : Transform }, Velocity := b0.Velocity, AngularVelocity := b0.AngularVelocity, Force := b0.Force, Torque := b0.Torque, LinearDamping := b0.LinearDamping, AngularDamping := b0.AngularDamping, GravityScale := b0.GravityScale, Bullet := b0.Bullet, FixedRotation := b0.FixedRotation, NoSleep := b0.NoSleep, Asleep := b0.Asleep, IdleSteps := b0.IdleSteps, Fixtures := b0.Fixtures : Body },
  { ID := (0 : Int), Kind := (0 : Int), Transform := { Position := { X := (0 : Int), Y := (0 : Int) : Vec }, Angle := (0 : Int) : Transform }, Velocity := { X := (0 : Int), Y := (0 : Int) : Vec }, AngularVelocity := (0 : Int), Force := { X := (0 : Int), Y := (0 : Int) : Vec }, Torque := (0 : Int), LinearDamping := (0 : Int), AngularDamping := (0 : Int), GravityScale := (0 : Int), Bullet := false, FixedRotation := false, NoSleep := false, Asleep := false, IdleSteps := (0 : Int), Fixtures := [] : Body })
  else
  Let (x1.Kind == (5 : Int)) fun (x1571 : Bool) =>
  if x1571 = true then
  Rx.Bind
  (body_ClampVelocity
  { ID := b0.ID, Kind := b0.Kind, Transform := b0.Transform, Velocity := x1.Vec, AngularVelocity := x1.Value, Force := b0.Force, Torque := b0.Torque, LinearDamping := b0.LinearDamping, AngularDamping := b0.AngularDamping, GravityScale := b0.GravityScale, Bullet := b0.Bullet, FixedRotation := b0.FixedRotation, NoSleep := b0.NoSleep, Asleep := b0.Asleep, IdleSteps := b0.IdleSteps, Fixtures := b0.Fixtures : Body })
  fun (r1572 : Body) =>
  j1562
  (r1572,
  { ID := (0 : Int), Kind := (0 : Int), Transform := { Position := { X := (0 : Int), Y := (0 : Int) : Vec }, Angle := (0 : Int) : Transform }, Velocity := { X := (0 : Int), Y := (0 : Int) : Vec }, AngularVelocity := (0 : Int), Force := { X := (0 : Int), Y := (0 : Int) : Vec }, Torque := (0 : Int), LinearDamping := (0 : Int), AngularDamping := (0 : Int), GravityScale := (0 : Int), Bullet := false, FixedRotation := false, NoSleep := false, Asleep := false, IdleSteps := (0 : Int), Fixtures := [] : Body })
  else
  j1562
  (b0,
  { ID := (0 : Int), Kind := (0 : Int), Transform := { Position := { X := (0 : Int), Y := (0 : Int) : Vec }, Angle := (0 : Int) : Transform }, Velocity := { X := (0 : Int), Y := (0 : Int) : Vec }, AngularVelocity := (0 : Int), Force := { X := (0 : Int), Y := (0 : Int) : Vec }, Torque := (0 : Int), LinearDamping := (0 : Int), AngularDamping := (0 : Int), GravityScale := (0 : Int), Bullet := false, FixedRotation := false, NoSleep := false, Asleep := false, IdleSteps := (0 : Int), Fixtures := [] : Body })

end GoForm
