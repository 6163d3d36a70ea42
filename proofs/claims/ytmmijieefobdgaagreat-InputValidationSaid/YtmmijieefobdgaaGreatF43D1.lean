/- The functions' plain forms. Printed by go3.py. No conditions. -/
import Derived.Test.YtmmijieefobdgaaGreatF43T
set_option linter.all false
set_option maxRecDepth 100000
open Go Go.Rx Go.Proofs Go.RowKit
namespace GoForm

noncomputable def caromref22_Few (bodies0 : (List Body)) (limit1 : Int) : Option Bool :=
  Let (↑bodies0.length : Int) fun (x1 : Int) =>
  Let (decide (x1 > limit1)) fun (x2 : Bool) =>
  if x2 = true then some false
  else
  LOOP
  (fun (rec3 : Int → Option Bool) (s4 : Int) =>
  Let (↑bodies0.length : Int) fun (x5 : Int) =>
  Let (decide (s4 < x5)) fun (x6 : Bool) =>
  if x6 = true then
  Chk ((0 : Int) ≤ s4 ∧ s4 < (↑bodies0.length : Int))
  (Let (ix bodies0 s4) fun (x7 : Body) =>
  Let (↑x7.Fixtures.length : Int) fun (x8 : Int) =>
  Let (decide (x8 > (8 : Int))) fun (x9 : Bool) =>
  if x9 = true then some false
  else
  LOOP
  (fun (rec10 : Int → Option Bool) (s11 : Int) =>
  Chk ((0 : Int) ≤ s4 ∧ s4 < (↑bodies0.length : Int))
  (Let (ix bodies0 s4) fun (x12 : Body) =>
  Let (↑x12.Fixtures.length : Int) fun (x13 : Int) =>
  Let (decide (s11 < x13)) fun (x14 : Bool) =>
  if x14 = true then
  Chk ((0 : Int) ≤ s4 ∧ s4 < (↑bodies0.length : Int))
  (Let (ix bodies0 s4) fun (x15 : Body) =>
  Chk ((0 : Int) ≤ s11 ∧ s11 < (↑x15.Fixtures.length : Int))
  (Let (ix x15.Fixtures s11) fun (x16 : Fixture) =>
  Let (↑x16.Shape.Vertices.length : Int) fun (x17 : Int) =>
  Let (decide (x17 > (20 : Int))) fun (x18 : Bool) =>
  if x18 = true then some false else Let (IntKind.i64.wrap (s11 + (1 : Int))) fun (x19 : Int) => rec10 x19))
  else Let (IntKind.i64.wrap (s4 + (1 : Int))) fun (x20 : Int) => rec3 x20))
  fuel (0 : Int))
  else some true)
  fuel (0 : Int)

noncomputable def caromlaw43_few (l0 : (List Input)) : Option Bool :=
  Let (↑l0.length : Int) fun (x21 : Int) =>
  Let (decide (x21 > (40 : Int))) fun (x22 : Bool) =>
  if x22 = true then some false
  else
  LOOP
  (fun (rec23 : Int → Option Bool) (s24 : Int) =>
  Let (↑l0.length : Int) fun (x25 : Int) =>
  Let (decide (s24 < x25)) fun (x26 : Bool) =>
  if x26 = true then
  Chk ((0 : Int) ≤ s24 ∧ s24 < (↑l0.length : Int))
  (Let (ix l0 s24) fun (x27 : Input) =>
  Rx.Bind (caromref22_Few [x27.Body] (1 : Int)) fun (r28 : Bool) =>
  Let (!r28) fun (x29 : Bool) =>
  if x29 = true then some false else Let (IntKind.i64.wrap (s24 + (1 : Int))) fun (x30 : Int) => rec23 x30)
  else some true)
  fuel (0 : Int)

noncomputable def world_in (x0 : Int) (low1 : Int) (high2 : Int) : Option Bool :=
  Let (decide (x0 ≥ low1)) fun (x31 : Bool) =>
  Let (decide (x0 ≤ high2)) fun (x32 : Bool) => Let (bif x31 then x32 else false) fun (x33 : Bool) => some x33

noncomputable def world_ValidateSettings (s0 : Settings) : Option Int :=
  Rx.Bind (world_in s0.Gravity.X (-16777216 : Int) (16777216 : Int)) fun (r34 : Bool) =>
  Rx.Bind (if (r34 == true) = true then world_in s0.Gravity.Y (-16777216 : Int) (16777216 : Int) else some default)
  fun (r35 : Bool) =>
  Let (bif r34 then r35 else false) fun (x36 : Bool) =>
  Rx.Bind (world_in s0.TimeStep (64 : Int) (8192 : Int)) fun (r37 : Bool) =>
  Let (!r37) fun (x38 : Bool) =>
  Let (!x36) fun (x39 : Bool) =>
  Let (bif x38 then true else x39) fun (x40 : Bool) =>
  Rx.Bind (if (x40 == false) = true then world_in s0.Iterations (1 : Int) (32 : Int) else some default)
  fun (r41 : Bool) =>
  Let (!r41) fun (x42 : Bool) =>
  Let (bif x40 then true else x42) fun (x43 : Bool) =>
  Rx.Bind (if (x43 == false) = true then world_in s0.SleepSteps (0 : Int) (1048576 : Int) else some default)
  fun (r44 : Bool) =>
  Let (!r44) fun (x45 : Bool) =>
  Let (bif x43 then true else x45) fun (x46 : Bool) => if x46 = true then some (6 : Int) else some (0 : Int)

noncomputable def body_within (x0 : Int) (low1 : Int) (high2 : Int) : Option Bool :=
  Let (decide (low1 ≤ x0)) fun (x47 : Bool) =>
  Let (decide (x0 ≤ high2)) fun (x48 : Bool) => Let (bif x47 then x48 else false) fun (x49 : Bool) => some x49

noncomputable def body_bounded (v0 : Vec) (limit1 : Int) : Option Bool :=
  Let (IntKind.i64.wrap ((0 : Int) - limit1)) fun (x50 : Int) =>
  Rx.Bind (body_within v0.X x50 limit1) fun (r51 : Bool) =>
  Let (IntKind.i64.wrap ((0 : Int) - limit1)) fun (x52 : Int) =>
  Rx.Bind (if (r51 == true) = true then body_within v0.Y x52 limit1 else some default) fun (r53 : Bool) =>
  Let (bif r51 then r53 else false) fun (x54 : Bool) => some x54

noncomputable def transform_inWorld (x0 : Int) : Option Bool :=
  Let (decide (x0 ≥ (-268435456 : Int))) fun (x55 : Bool) =>
  Let (decide (x0 ≤ (268435456 : Int))) fun (x56 : Bool) => Let (bif x55 then x56 else false) fun (x57 : Bool) => some x57

noncomputable def transform_Valid (t0 : Transform) : Option Bool :=
  Rx.Bind (transform_inWorld t0.Position.X) fun (r58 : Bool) =>
  Rx.Bind (if (r58 == true) = true then transform_inWorld t0.Position.Y else some default) fun (r59 : Bool) =>
  Let (bif r58 then r59 else false) fun (x60 : Bool) =>
  Let (decide (t0.Angle ≥ (-205888 : Int))) fun (x61 : Bool) =>
  Let (bif x60 then x61 else false) fun (x62 : Bool) =>
  Let (decide (t0.Angle < (205888 : Int))) fun (x63 : Bool) =>
  Let (bif x62 then x63 else false) fun (x64 : Bool) => some x64

noncomputable def body_inRange (b0 : Body) : Option Bool :=
  Rx.Bind (body_bounded b0.Velocity (16777216 : Int)) fun (r65 : Bool) =>
  Rx.Bind (if (r65 == true) = true then body_within b0.AngularVelocity (-4194304 : Int) (4194304 : Int) else some default)
  fun (r66 : Bool) =>
  Let (bif r65 then r66 else false) fun (x67 : Bool) =>
  Rx.Bind (body_bounded b0.Force (536870911 : Int)) fun (r68 : Bool) =>
  Rx.Bind (if (r68 == true) = true then body_within b0.Torque (-536870911 : Int) (536870911 : Int) else some default)
  fun (r69 : Bool) =>
  Let (bif r68 then r69 else false) fun (x70 : Bool) =>
  Rx.Bind (body_within b0.LinearDamping (0 : Int) (65536 : Int)) fun (r71 : Bool) =>
  Rx.Bind (if (r71 == true) = true then body_within b0.AngularDamping (0 : Int) (65536 : Int) else some default)
  fun (r72 : Bool) =>
  Let (bif r71 then r72 else false) fun (x73 : Bool) =>
  Rx.Bind (body_within b0.GravityScale (-262144 : Int) (262144 : Int)) fun (r74 : Bool) =>
  Rx.Bind (body_within b0.ID (1 : Int) (1099511627776 : Int)) fun (r75 : Bool) =>
  Rx.Bind (if (r75 == true) = true then transform_Valid b0.Transform else some default) fun (r76 : Bool) =>
  Let (bif r75 then r76 else false) fun (x77 : Bool) =>
  Let (bif x77 then x67 else false) fun (x78 : Bool) =>
  Let (bif x78 then x70 else false) fun (x79 : Bool) =>
  Let (bif x79 then x73 else false) fun (x80 : Bool) =>
  Let (bif x80 then r74 else false) fun (x81 : Bool) =>
  Rx.Bind (if (x81 == true) = true then body_within b0.IdleSteps (0 : Int) (1048576 : Int) else some default)
  fun (r82 : Bool) => Let (bif x81 then r82 else false) fun (x83 : Bool) => some x83

noncomputable def shape_validCount (s0 : Shape) : Option Bool :=
  Let (↑s0.Vertices.length : Int) fun (x84 : Int) =>
  Let (s0.Kind == (1 : Int)) fun (x85 : Bool) =>
  if x85 = true then Let (x84 == (1 : Int)) fun (x86 : Bool) => some x86
  else
  Let (s0.Kind == (2 : Int)) fun (x87 : Bool) =>
  if x87 = true then Let (x84 == (2 : Int)) fun (x88 : Bool) => some x88
  else
  Let (decide (x84 ≥ (3 : Int))) fun (x89 : Bool) =>
  Let (decide (x84 ≤ (8 : Int))) fun (x90 : Bool) => Let (bif x89 then x90 else false) fun (x91 : Bool) => some x91

noncomputable def slices_IndexFunc_239 (s0 : (List Vec)) (f1 : (Vec → Option Bool)) : Option Int :=
  Let (↑s0.length : Int) fun (x92 : Int) =>
  LOOP
  (fun (rec93 : Int → Option Int) (s94 : Int) =>
  Let (decide (s94 < x92)) fun (x95 : Bool) =>
  if x95 = true then
  Chk ((0 : Int) ≤ s94 ∧ s94 < (↑s0.length : Int))
  (Let (ix s0 s94) fun (x96 : Vec) =>
  Rx.Bind (f1 x96) fun (r97 : Bool) =>
  if r97 = true then some s94 else Let (IntKind.i64.wrap (s94 + (1 : Int))) fun (x98 : Int) => rec93 x98)
  else some (-1 : Int))
  fuel (0 : Int)

noncomputable def slices_ContainsFunc_208 (s0 : (List Vec)) (f1 : (Vec → Option Bool)) : Option Bool :=
  Rx.Bind (slices_IndexFunc_239 s0 f1) fun (r99 : Int) => Let (decide (r99 ≥ (0 : Int))) fun (x100 : Bool) => some x100

noncomputable def shape_outOfRange (n0 : Int) : Option Bool :=
  Let (decide (n0 < (-1048576 : Int))) fun (x101 : Bool) =>
  Let (decide (n0 > (1048576 : Int))) fun (x102 : Bool) =>
  Let (bif x101 then true else x102) fun (x103 : Bool) => some x103

noncomputable def shape_Validate_1 (v0 : Vec) : Option Bool :=
  Rx.Bind (shape_outOfRange v0.X) fun (r104 : Bool) =>
  Rx.Bind (if (r104 == false) = true then shape_outOfRange v0.Y else some default) fun (r105 : Bool) =>
  Let (bif r104 then true else r105) fun (x106 : Bool) => some x106

noncomputable def fixed_Saturate (x0 : Int) : Option Int :=
  Let (max x0 (-536870911 : Int)) fun (x107 : Int) => Let (min x107 (536870911 : Int)) fun (x108 : Int) => some x108

noncomputable def fixed_Sub (a0 : Int) (b1 : Int) : Option Int :=
  Rx.Bind (fixed_Saturate a0) fun (r109 : Int) =>
  Rx.Bind (fixed_Saturate b1) fun (r110 : Int) =>
  Let (IntKind.i64.wrap (r109 - r110)) fun (x111 : Int) => Rx.Bind (fixed_Saturate x111) fun (r112 : Int) => some r112

noncomputable def vec2_Sub (a0 : Vec) (b1 : Vec) : Option Vec :=
  Rx.Bind (fixed_Sub a0.X b1.X) fun (r113 : Int) =>
  Rx.Bind (fixed_Sub a0.Y b1.Y) fun (r114 : Int) => some { X := r113, Y := r114 : Vec }

noncomputable def vec2_saturate (v0 : Vec) : Option Vec :=
  Rx.Bind (fixed_Saturate v0.X) fun (r115 : Int) =>
  Rx.Bind (fixed_Saturate v0.Y) fun (r116 : Int) => some { X := r115, Y := r116 : Vec }

noncomputable def vec2_DistanceSquared (a0 : Vec) (b1 : Vec) : Option Int :=
  Rx.Bind (vec2_saturate a0) fun (r117 : Vec) =>
  Rx.Bind (vec2_saturate b1) fun (r118 : Vec) =>
  Let (IntKind.i64.wrap (r118.X - r117.X)) fun (x119 : Int) =>
  Let (IntKind.i64.wrap (r118.Y - r117.Y)) fun (x120 : Int) =>
  Let (IntKind.i64.wrap (x119 * x119)) fun (x121 : Int) =>
  Let (IntKind.i64.wrap (x120 * x120)) fun (x122 : Int) =>
  Let (IntKind.i64.wrap (x121 + x122)) fun (x123 : Int) => some x123

noncomputable def fixed_Isqrt (n0 : Int) : Option Int :=
  Let (decide (n0 < (0 : Int))) fun (x124 : Bool) =>
  Let (decide (n0 > (4611686018427387904 : Int))) fun (x125 : Bool) =>
  Let (bif x124 then true else x125) fun (x126 : Bool) =>
  if x126 = true then some (0 : Int)
  else
  LOOP
  (fun (rec127 : Int × Int → Option Int) (s128 : Int × Int) =>
  Let (decide (s128.snd > (0 : Int))) fun (x129 : Bool) =>
  if x129 = true then
  Join (fun (v130 : Int) => Let (bShr IntKind.i64 s128.snd (1 : Int)) fun (x131 : Int) => rec127 (v130, x131))
  fun (j132 : Int → Option Int) =>
  Let (bOr IntKind.i64 s128.fst s128.snd) fun (x133 : Int) =>
  Let (IntKind.u64.wrap x133) fun (x134 : Int) =>
  Let (IntKind.u64.wrap x133) fun (x135 : Int) =>
  Let (IntKind.u64.wrap (x134 * x135)) fun (x136 : Int) =>
  Let (IntKind.u64.wrap n0) fun (x137 : Int) =>
  Let (decide (x136 ≤ x137)) fun (x138 : Bool) => if x138 = true then j132 x133 else j132 s128.fst
  else some s128.fst)
  fuel ((0 : Int), (2147483648 : Int))

noncomputable def vec2_Length (v0 : Vec) : Option Int :=
  Rx.Bind (vec2_DistanceSquared { X := (0 : Int), Y := (0 : Int) : Vec } v0) fun (r139 : Int) =>
  Rx.Bind (fixed_Isqrt r139) fun (r140 : Int) => some r140

noncomputable def polygon_inReach (v0 : Vec) : Option Bool :=
  Let (decide (v0.X ≥ (-1048576 : Int))) fun (x141 : Bool) =>
  Let (decide (v0.X ≤ (1048576 : Int))) fun (x142 : Bool) =>
  Let (bif x141 then x142 else false) fun (x143 : Bool) =>
  Let (decide (v0.Y ≥ (-1048576 : Int))) fun (x144 : Bool) =>
  Let (bif x143 then x144 else false) fun (x145 : Bool) =>
  Let (decide (v0.Y ≤ (1048576 : Int))) fun (x146 : Bool) =>
  Let (bif x145 then x146 else false) fun (x147 : Bool) => some x147

noncomputable def polygon_allInReach (points0 : (List Vec)) : Option Bool :=
  Let (↑points0.length : Int) fun (x148 : Int) =>
  LOOP
  (fun (rec149 : Int → Option Bool) (s150 : Int) =>
  Let (decide (s150 < x148)) fun (x151 : Bool) =>
  if x151 = true then
  Chk ((0 : Int) ≤ s150 ∧ s150 < (↑points0.length : Int))
  (Let (ix points0 s150) fun (x152 : Vec) =>
  Rx.Bind (polygon_inReach x152) fun (r153 : Bool) =>
  Let (!r153) fun (x154 : Bool) =>
  if x154 = true then some false else Let (IntKind.i64.wrap (s150 + (1 : Int))) fun (x155 : Int) => rec149 x155)
  else some true)
  fuel (0 : Int)

noncomputable def vec2_Orientation (a0 : Vec) (b1 : Vec) (c2 : Vec) : Option Int :=
  Rx.Bind (vec2_saturate a0) fun (r156 : Vec) =>
  Rx.Bind (vec2_saturate b1) fun (r157 : Vec) =>
  Rx.Bind (vec2_saturate c2) fun (r158 : Vec) =>
  Let (IntKind.i64.wrap (r157.X - r156.X)) fun (x159 : Int) =>
  Let (IntKind.i64.wrap (r158.Y - r156.Y)) fun (x160 : Int) =>
  Let (IntKind.i64.wrap (x159 * x160)) fun (x161 : Int) =>
  Let (IntKind.i64.wrap (r157.Y - r156.Y)) fun (x162 : Int) =>
  Let (IntKind.i64.wrap (r158.X - r156.X)) fun (x163 : Int) =>
  Let (IntKind.i64.wrap (x162 * x163)) fun (x164 : Int) =>
  Let (IntKind.i64.wrap (x161 - x164)) fun (x165 : Int) =>
  Let (max (-1 : Int) x165) fun (x166 : Int) => Let (min (1 : Int) x166) fun (x167 : Int) => some x167

noncomputable def polygon_IsConvex (vertices0 : (List Vec)) : Option Bool :=
  Let (↑vertices0.length : Int) fun (x168 : Int) =>
  Let (decide (x168 < (3 : Int))) fun (x169 : Bool) =>
  Let (decide (x168 > (8 : Int))) fun (x170 : Bool) =>
  Let (bif x169 then true else x170) fun (x171 : Bool) =>
  Rx.Bind (if (x171 == false) = true then polygon_allInReach vertices0 else some default) fun (r172 : Bool) =>
  Let (!r172) fun (x173 : Bool) =>
  Let (bif x171 then true else x173) fun (x174 : Bool) =>
  if x174 = true then some false
  else
  Let (↑vertices0.length : Int) fun (x175 : Int) =>
  LOOP
  (fun (rec176 : Int → Option Bool) (s177 : Int) =>
  Let (decide (s177 < x175)) fun (x178 : Bool) =>
  if x178 = true then
  Chk ((0 : Int) ≤ s177 ∧ s177 < (↑vertices0.length : Int))
  (Let (ix vertices0 s177) fun (x179 : Vec) =>
  Let (IntKind.i64.wrap (s177 + (1 : Int))) fun (x180 : Int) =>
  Chk (x168 ≠ (0 : Int))
  (Let (x180.tmod x168) fun (x181 : Int) =>
  Let (↑vertices0.length : Int) fun (x182 : Int) =>
  LOOP
  (fun (rec183 : Int → Option Bool) (s184 : Int) =>
  Let (decide (s184 < x182)) fun (x185 : Bool) =>
  if x185 = true then
  Chk ((0 : Int) ≤ s184 ∧ s184 < (↑vertices0.length : Int))
  (Let (ix vertices0 s184) fun (x186 : Vec) =>
  Let (s184 != s177) fun (x187 : Bool) =>
  Let (s184 != x181) fun (x188 : Bool) =>
  Let (bif x187 then x188 else false) fun (x189 : Bool) =>
  Chk ((x189 == true) = true → (0 : Int) ≤ x181 ∧ x181 < (↑vertices0.length : Int))
  (Let (ix vertices0 x181) fun (x190 : Vec) =>
  Rx.Bind (if (x189 == true) = true then vec2_Orientation x179 x190 x186 else some default) fun (r191 : Int) =>
  Let (r191 != (1 : Int)) fun (x192 : Bool) =>
  Let (bif x189 then x192 else false) fun (x193 : Bool) =>
  if x193 = true then some false else Let (IntKind.i64.wrap (s184 + (1 : Int))) fun (x194 : Int) => rec183 x194))
  else Let (IntKind.i64.wrap (s177 + (1 : Int))) fun (x195 : Int) => rec176 x195)
  fuel (0 : Int)))
  else some true)
  fuel (0 : Int)

noncomputable def polygon_ShortestEdge (vertices0 : (List Vec)) : Option Int :=
  Rx.Bind (polygon_IsConvex vertices0) fun (r196 : Bool) =>
  Let (!r196) fun (x197 : Bool) =>
  if x197 = true then some (0 : Int)
  else
  Let (↑vertices0.length : Int) fun (x198 : Int) =>
  LOOP
  (fun (rec199 : Int × Int → Option Int) (s200 : Int × Int) =>
  Let (decide (s200.snd < x198)) fun (x201 : Bool) =>
  if x201 = true then
  Chk ((0 : Int) ≤ s200.snd ∧ s200.snd < (↑vertices0.length : Int))
  (Let (ix vertices0 s200.snd) fun (x202 : Vec) =>
  Let (IntKind.i64.wrap (s200.snd + (1 : Int))) fun (x203 : Int) =>
  Let (↑vertices0.length : Int) fun (x204 : Int) =>
  Chk (x204 ≠ (0 : Int))
  (Let (x203.tmod x204) fun (x205 : Int) =>
  Chk ((0 : Int) ≤ x205 ∧ x205 < (↑vertices0.length : Int))
  (Let (ix vertices0 x205) fun (x206 : Vec) =>
  Rx.Bind (vec2_Sub x206 x202) fun (r207 : Vec) =>
  Rx.Bind (vec2_Length r207) fun (r208 : Int) =>
  Let (min s200.fst r208) fun (x209 : Int) =>
  Let (IntKind.i64.wrap (s200.snd + (1 : Int))) fun (x210 : Int) => rec199 (x209, x210))))
  else some s200.fst)
  fuel ((536870911 : Int), (0 : Int))

noncomputable def fixed_RoundDiv (n0 : Int) (d1 : Int) : Option Int :=
  Let (decide (d1 < (1 : Int))) fun (x211 : Bool) =>
  Let (decide (d1 > (4611686018427387904 : Int))) fun (x212 : Bool) =>
  Let (bif x211 then true else x212) fun (x213 : Bool) =>
  Let (decide (n0 < (-4611686018427387904 : Int))) fun (x214 : Bool) =>
  Let (bif x213 then true else x214) fun (x215 : Bool) =>
  Let (decide (n0 > (4611686018427387904 : Int))) fun (x216 : Bool) =>
  Let (bif x215 then true else x216) fun (x217 : Bool) =>
  if x217 = true then some (0 : Int)
  else
  Chk (d1 ≠ (0 : Int))
  (Let (IntKind.i64.wrap (n0.tdiv d1)) fun (x218 : Int) =>
  Chk (d1 ≠ (0 : Int))
  (Let (n0.tmod d1) fun (x219 : Int) =>
  Join (fun (v220 : Int) => some v220) fun (j221 : Int → Option Int) =>
  Let (IntKind.i64.wrap (d1 - x219)) fun (x222 : Int) =>
  Let (decide (x219 ≥ x222)) fun (x223 : Bool) =>
  if x223 = true then Let (IntKind.i64.wrap (x218 + (1 : Int))) fun (x224 : Int) => j221 x224
  else
  Let (IntKind.i64.wrap ((0 : Int) - x219)) fun (x225 : Int) =>
  Let (IntKind.i64.wrap (d1 + x219)) fun (x226 : Int) =>
  Let (decide (x225 ≥ x226)) fun (x227 : Bool) =>
  if x227 = true then Let (IntKind.i64.wrap (x218 - (1 : Int))) fun (x228 : Int) => j221 x228 else j221 x218))

noncomputable def polygon_fan (vertices0 : (List Vec)) : Option ((List polygon_triangle) × Int) :=
  Chk ((0 : Int) ≤ (0 : Int) ∧ (0 : Int) < (↑vertices0.length : Int))
  (Let (ix vertices0 (0 : Int)) fun (x229 : Vec) =>
  LOOP
  (fun (rec230 : List polygon_triangle × Int × Int → Option (List polygon_triangle × Int))
  (s231 : List polygon_triangle × Int × Int) =>
  Let (IntKind.i64.wrap (s231.snd.snd + (1 : Int))) fun (x232 : Int) =>
  Let (↑vertices0.length : Int) fun (x233 : Int) =>
  Let (decide (x232 < x233)) fun (x234 : Bool) =>
  if x234 = true then
  Chk ((0 : Int) ≤ s231.snd.snd ∧ s231.snd.snd < (↑vertices0.length : Int))
  (Let (ix vertices0 s231.snd.snd) fun (x235 : Vec) =>
  Let (IntKind.i64.wrap (x235.X - x229.X)) fun (x236 : Int) =>
  Chk ((0 : Int) ≤ s231.snd.snd ∧ s231.snd.snd < (↑vertices0.length : Int))
  (Let (ix vertices0 s231.snd.snd) fun (x237 : Vec) =>
  Let (IntKind.i64.wrap (x237.Y - x229.Y)) fun (x238 : Int) =>
  Let (IntKind.i64.wrap (s231.snd.snd + (1 : Int))) fun (x239 : Int) =>
  Chk ((0 : Int) ≤ x239 ∧ x239 < (↑vertices0.length : Int))
  (Let (ix vertices0 x239) fun (x240 : Vec) =>
  Let (IntKind.i64.wrap (x240.X - x229.X)) fun (x241 : Int) =>
  Let (IntKind.i64.wrap (s231.snd.snd + (1 : Int))) fun (x242 : Int) =>
  Chk ((0 : Int) ≤ x242 ∧ x242 < (↑vertices0.length : Int))
  (Let (ix vertices0 x242) fun (x243 : Vec) =>
  Let (IntKind.i64.wrap (x243.Y - x229.Y)) fun (x244 : Int) =>
  Let (IntKind.i64.wrap (x236 * x244)) fun (x245 : Int) =>
  Let (IntKind.i64.wrap (x238 * x241)) fun (x246 : Int) =>
  Let (IntKind.i64.wrap (x245 - x246)) fun (x247 : Int) =>
  Rx.Bind (fixed_RoundDiv x247 (65536 : Int)) fun (r248 : Int) =>
  Chk
  ((List.length s231.fst +
  [{ e := { X := x236, Y := x238 : Vec }, f := { X := x241, Y := x244 : Vec }, cross := r248 : polygon_triangle }].length) *
  (40 : Nat) ≤
  (140737488355328 : Nat))
  (Let
  (s231.fst ++
  [{ e := { X := x236, Y := x238 : Vec }, f := { X := x241, Y := x244 : Vec }, cross := r248 : polygon_triangle }])
  fun (x249 : List polygon_triangle) =>
  Let (IntKind.i64.wrap (s231.snd.fst + r248)) fun (x250 : Int) =>
  Let (IntKind.i64.wrap (s231.snd.snd + (1 : Int))) fun (x251 : Int) => rec230 (x249, x250, x251))))))
  else some (s231.fst, s231.snd.fst))
  fuel ([], (0 : Int), (1 : Int)))

noncomputable def polygon_Area (vertices0 : (List Vec)) : Option Int :=
  Rx.Bind (polygon_IsConvex vertices0) fun (r252 : Bool) =>
  Let (!r252) fun (x253 : Bool) =>
  if x253 = true then some (0 : Int)
  else
  Rx.Bind (polygon_fan vertices0) fun (r254 : List polygon_triangle × Int) =>
  Rx.Bind (fixed_RoundDiv r254.snd (2 : Int)) fun (r255 : Int) => some r255

noncomputable def shape_Validate (s0 : Shape) : Option Int :=
  Let (decide (s0.Kind < (1 : Int))) fun (x256 : Bool) =>
  Let (decide (s0.Kind > (3 : Int))) fun (x257 : Bool) =>
  Let (bif x256 then true else x257) fun (x258 : Bool) =>
  if x258 = true then some (10 : Int)
  else
  Rx.Bind (shape_validCount s0) fun (r259 : Bool) =>
  Let (!r259) fun (x260 : Bool) =>
  if x260 = true then some (11 : Int)
  else
  Rx.Bind (slices_ContainsFunc_208 s0.Vertices fun (a : Tup tb [Ix.tVec]) => shape_Validate_1 a) fun (r261 : Bool) =>
  if r261 = true then some (6 : Int)
  else
  Join
  (fun (v262 : Bool) =>
  if v262 = true then some (6 : Int)
  else
  Let (s0.Kind == (2 : Int)) fun (x263 : Bool) =>
  Chk ((x263 == true) = true → (0 : Int) ≤ (1 : Int) ∧ (1 : Int) < (↑s0.Vertices.length : Int))
  (Let (ix s0.Vertices (1 : Int)) fun (x264 : Vec) =>
  Chk ((x263 == true) = true → (0 : Int) ≤ (0 : Int) ∧ (0 : Int) < (↑s0.Vertices.length : Int))
  (Let (ix s0.Vertices (0 : Int)) fun (x265 : Vec) =>
  Rx.Bind (if (x263 == true) = true then vec2_Sub x264 x265 else some { X := default, Y := default : Vec })
  fun (r266 : Vec) =>
  Rx.Bind (if (x263 == true) = true then vec2_Length r266 else some default) fun (r267 : Int) =>
  Let (decide (r267 < (4096 : Int))) fun (x268 : Bool) =>
  Let (bif x263 then x268 else false) fun (x269 : Bool) =>
  if x269 = true then some (12 : Int)
  else
  Let (s0.Kind == (3 : Int)) fun (x270 : Bool) =>
  Rx.Bind (if (x270 == true) = true then polygon_IsConvex s0.Vertices else some default) fun (r271 : Bool) =>
  Let (!r271) fun (x272 : Bool) =>
  Rx.Bind (if (x270 == true && x272 == false) = true then polygon_ShortestEdge s0.Vertices else some default)
  fun (r273 : Int) =>
  Let (decide (r273 < (4096 : Int))) fun (x274 : Bool) =>
  Let (bif x272 then true else x274) fun (x275 : Bool) =>
  Rx.Bind (if (x270 == true && x275 == false) = true then polygon_Area s0.Vertices else some default) fun (r276 : Int) =>
  Let (decide (r276 < (256 : Int))) fun (x277 : Bool) =>
  Let (bif x275 then true else x277) fun (x278 : Bool) =>
  Let (bif x270 then x278 else false) fun (x279 : Bool) => if x279 = true then some (12 : Int) else some (0 : Int))))
  fun (j280 : Bool → Option Int) =>
  Let (s0.Kind == (3 : Int)) fun (x281 : Bool) =>
  Let (s0.Radius != (0 : Int)) fun (x282 : Bool) =>
  Let (bif x281 then x282 else false) fun (x283 : Bool) =>
  if x283 = true then j280 x283
  else
  Let (s0.Kind != (3 : Int)) fun (x284 : Bool) =>
  Let (decide (s0.Radius < (2048 : Int))) fun (x285 : Bool) =>
  Let (decide (s0.Radius > (524288 : Int))) fun (x286 : Bool) =>
  Let (bif x285 then true else x286) fun (x287 : Bool) =>
  Let (bif x284 then x287 else false) fun (x288 : Bool) => j280 x288

noncomputable def body_ValidateFixture (f0 : Fixture) : Option Int :=
  Rx.Bind (shape_Validate f0.Shape) fun (r289 : Int) =>
  Let (r289 != (0 : Int)) fun (x290 : Bool) =>
  if x290 = true then some r289
  else
  Rx.Bind (body_within f0.Density (0 : Int) (262144 : Int)) fun (r291 : Bool) =>
  Rx.Bind (if (r291 == true) = true then body_within f0.Friction (0 : Int) (131072 : Int) else some default)
  fun (r292 : Bool) =>
  Let (bif r291 then r292 else false) fun (x293 : Bool) =>
  Rx.Bind (if (x293 == true) = true then body_within f0.Restitution (0 : Int) (65536 : Int) else some default)
  fun (r294 : Bool) =>
  Let (bif x293 then r294 else false) fun (x295 : Bool) =>
  Rx.Bind (body_within f0.Category (0 : Int) (65535 : Int)) fun (r296 : Bool) =>
  Rx.Bind (if (r296 == true) = true then body_within f0.Mask (0 : Int) (65535 : Int) else some default)
  fun (r297 : Bool) =>
  Let (bif r296 then r297 else false) fun (x298 : Bool) =>
  Rx.Bind (if (x298 == true) = true then body_within f0.Group (-32 : Int) (32 : Int) else some default)
  fun (r299 : Bool) =>
  Let (bif x298 then r299 else false) fun (x300 : Bool) =>
  Let (!x295) fun (x301 : Bool) =>
  Let (!x300) fun (x302 : Bool) =>
  Let (bif x301 then true else x302) fun (x303 : Bool) => if x303 = true then some (6 : Int) else some (0 : Int)

noncomputable def body_moving (b0 : Body) : Option Bool :=
  Let (!(decide (b0.Velocity.X = (0 : Int)) && decide (b0.Velocity.Y = (0 : Int)))) fun (x304 : Bool) =>
  Let (b0.AngularVelocity != (0 : Int)) fun (x305 : Bool) =>
  Let (bif x304 then true else x305) fun (x306 : Bool) => some x306

noncomputable def body_consistent (b0 : Body) : Option Bool :=
  Let (!(decide (b0.Force.X = (0 : Int)) && decide (b0.Force.Y = (0 : Int)))) fun (x307 : Bool) =>
  Let (b0.Torque != (0 : Int)) fun (x308 : Bool) =>
  Let (bif x307 then true else x308) fun (x309 : Bool) =>
  Let (b0.Kind == (1 : Int)) fun (x310 : Bool) =>
  Rx.Bind (if (x310 == true) = true then body_moving b0 else some default) fun (r311 : Bool) =>
  Let (bif r311 then true else x309) fun (x312 : Bool) =>
  Let (bif x310 then x312 else false) fun (x313 : Bool) =>
  if x313 = true then some false
  else
  Let (b0.Kind != (3 : Int)) fun (x314 : Bool) =>
  Let (bif b0.Asleep then true else b0.Bullet) fun (x315 : Bool) =>
  Let (bif x314 then x315 else false) fun (x316 : Bool) =>
  if x316 = true then some false
  else
  Let (!b0.Asleep) fun (x317 : Bool) =>
  Rx.Bind (if (x317 == false) = true then body_moving b0 else some default) fun (r318 : Bool) =>
  Let (!r318) fun (x319 : Bool) => Let (bif x317 then true else x319) fun (x320 : Bool) => some x320

noncomputable def body_Validate (b0 : Body) : Option Int :=
  Let (b0.Kind != (1 : Int)) fun (x321 : Bool) =>
  Let (b0.Kind != (2 : Int)) fun (x322 : Bool) =>
  Let (bif x321 then x322 else false) fun (x323 : Bool) =>
  Let (b0.Kind != (3 : Int)) fun (x324 : Bool) =>
  Let (bif x323 then x324 else false) fun (x325 : Bool) =>
  if x325 = true then some (10 : Int)
  else
  Rx.Bind (body_inRange b0) fun (r326 : Bool) =>
  Let (!r326) fun (x327 : Bool) =>
  if x327 = true then some (6 : Int)
  else
  Let (↑b0.Fixtures.length : Int) fun (x328 : Int) =>
  Let (decide (x328 > (4 : Int))) fun (x329 : Bool) =>
  if x329 = true then some (11 : Int)
  else
  Let (↑b0.Fixtures.length : Int) fun (x330 : Int) =>
  LOOP
  (fun (rec331 : Int → Option Int) (s332 : Int) =>
  Let (decide (s332 < x330)) fun (x333 : Bool) =>
  if x333 = true then
  Chk ((0 : Int) ≤ s332 ∧ s332 < (↑b0.Fixtures.length : Int))
  (Let (ix b0.Fixtures s332) fun (x334 : Fixture) =>
  Rx.Bind (body_ValidateFixture x334) fun (r335 : Int) =>
  Let (r335 != (0 : Int)) fun (x336 : Bool) =>
  if x336 = true then some (13 : Int) else Let (IntKind.i64.wrap (s332 + (1 : Int))) fun (x337 : Int) => rec331 x337)
  else
  Rx.Bind (body_consistent b0) fun (r338 : Bool) =>
  Let (!r338) fun (x339 : Bool) => if x339 = true then some (14 : Int) else some (0 : Int))
  fuel (0 : Int)

noncomputable def world_validBodies (w0 : World_) : Option Bool :=
  Let (↑w0.Bodies.length : Int) fun (x340 : Int) =>
  LOOP
  (fun (rec341 : Int × Int → Option Bool) (s342 : Int × Int) =>
  Let (decide (s342.snd < x340)) fun (x343 : Bool) =>
  if x343 = true then
  Chk ((0 : Int) ≤ s342.snd ∧ s342.snd < (↑w0.Bodies.length : Int))
  (Let (ix w0.Bodies s342.snd) fun (x344 : Body) =>
  Rx.Bind (body_Validate x344) fun (r345 : Int) =>
  Let (r345 != (0 : Int)) fun (x346 : Bool) =>
  Let (decide (x344.ID ≥ w0.NextID)) fun (x347 : Bool) =>
  Let (bif x346 then true else x347) fun (x348 : Bool) =>
  Let (decide (x344.ID ≤ s342.fst)) fun (x349 : Bool) =>
  Let (bif x348 then true else x349) fun (x350 : Bool) =>
  if x350 = true then some false
  else Let (IntKind.i64.wrap (s342.snd + (1 : Int))) fun (x351 : Int) => rec341 (x344.ID, x351))
  else some true)
  fuel ((0 : Int), (0 : Int))

noncomputable def joint_limitRange (k0 : Int) : Option (Int × Int) :=
  Let (k0 == (1 : Int)) fun (x352 : Bool) =>
  if x352 = true then some ((0 : Int), (268435456 : Int))
  else
  Let (k0 == (2 : Int)) fun (x353 : Bool) =>
  if x353 = true then some ((-205888 : Int), (205888 : Int)) else some ((-268435456 : Int), (268435456 : Int))

noncomputable def joint_inRange (n0 : Int) (low1 : Int) (high2 : Int) : Option Bool :=
  Let (decide (n0 ≥ low1)) fun (x354 : Bool) =>
  Let (decide (n0 ≤ high2)) fun (x355 : Bool) => Let (bif x354 then x355 else false) fun (x356 : Bool) => some x356

noncomputable def joint_pointInRange (v0 : Vec) (limit1 : Int) : Option Bool :=
  Let (IntKind.i64.wrap ((0 : Int) - limit1)) fun (x357 : Int) =>
  Rx.Bind (joint_inRange v0.X x357 limit1) fun (r358 : Bool) =>
  Let (IntKind.i64.wrap ((0 : Int) - limit1)) fun (x359 : Int) =>
  Rx.Bind (if (r358 == true) = true then joint_inRange v0.Y x359 limit1 else some default) fun (r360 : Bool) =>
  Let (bif r358 then r360 else false) fun (x361 : Bool) => some x361

noncomputable def joint_numbersInRange (j0 : Joint) : Option Bool :=
  Join
  (fun (v362 : Int) =>
  Rx.Bind (joint_limitRange j0.Kind) fun (r363 : Int × Int) =>
  LOOP
  (fun (rec364 : Int → Option Bool) (s365 : Int) =>
  Let (decide (s365 < (4 : Int))) fun (x366 : Bool) =>
  if x366 = true then
  Chk ((0 : Int) ≤ s365 ∧ s365 < (↑(4 : Nat) : Int))
  (Let (ix [j0.Impulses.fst, j0.Impulses.snd.fst, j0.Impulses.snd.snd.fst, j0.Impulses.snd.snd.snd] s365)
  fun (x367 : Int) =>
  Rx.Bind (joint_inRange x367 (-536870911 : Int) (536870911 : Int)) fun (r368 : Bool) =>
  Let (!r368) fun (x369 : Bool) =>
  if x369 = true then some false else Let (IntKind.i64.wrap (s365 + (1 : Int))) fun (x370 : Int) => rec364 x370)
  else
  Rx.Bind (joint_inRange j0.ID (1 : Int) (1099511627776 : Int)) fun (r371 : Bool) =>
  Rx.Bind (if (r371 == true) = true then joint_pointInRange j0.AnchorA v362 else some default) fun (r372 : Bool) =>
  Let (bif r371 then r372 else false) fun (x373 : Bool) =>
  Rx.Bind (if (x373 == true) = true then joint_pointInRange j0.AnchorB (1048576 : Int) else some default)
  fun (r374 : Bool) =>
  Let (bif x373 then r374 else false) fun (x375 : Bool) =>
  Rx.Bind (if (x375 == true) = true then joint_inRange j0.ReferenceAngle (-205888 : Int) (205887 : Int) else some default)
  fun (r376 : Bool) =>
  Let (bif x375 then r376 else false) fun (x377 : Bool) =>
  Rx.Bind (if (x377 == true) = true then joint_inRange j0.Lower r363.fst r363.snd else some default) fun (r378 : Bool) =>
  Let (bif x377 then r378 else false) fun (x379 : Bool) =>
  Rx.Bind (if (x379 == true) = true then joint_inRange j0.Upper r363.fst r363.snd else some default) fun (r380 : Bool) =>
  Let (bif x379 then r380 else false) fun (x381 : Bool) =>
  Let (decide (j0.Lower ≤ j0.Upper)) fun (x382 : Bool) =>
  Let (bif x381 then x382 else false) fun (x383 : Bool) =>
  Rx.Bind (if (x383 == true) = true then joint_inRange j0.MotorSpeed (-16777216 : Int) (16777216 : Int) else some default)
  fun (r384 : Bool) =>
  Let (bif x383 then r384 else false) fun (x385 : Bool) =>
  Rx.Bind (if (x385 == true) = true then joint_inRange j0.MaxForce (0 : Int) (536870911 : Int) else some default)
  fun (r386 : Bool) =>
  Let (bif x385 then r386 else false) fun (x387 : Bool) =>
  Rx.Bind (if (x387 == true) = true then joint_inRange j0.Softness (0 : Int) (536870911 : Int) else some default)
  fun (r388 : Bool) =>
  Let (bif x387 then r388 else false) fun (x389 : Bool) =>
  Rx.Bind (if (x389 == true) = true then joint_inRange j0.BreakForce (0 : Int) (536870911 : Int) else some default)
  fun (r390 : Bool) => Let (bif x389 then r390 else false) fun (x391 : Bool) => some x391)
  fuel (0 : Int))
  fun (j392 : Int → Option Bool) =>
  Let (j0.Kind == (5 : Int)) fun (x393 : Bool) => if x393 = true then j392 (268435456 : Int) else j392 (1048576 : Int)

noncomputable def joint_validBodies (j0 : Joint) : Option Bool :=
  Let (j0.Kind == (5 : Int)) fun (x394 : Bool) =>
  if x394 = true then
  Let (j0.BodyA == (0 : Int)) fun (x395 : Bool) =>
  Rx.Bind (if (x395 == true) = true then joint_inRange j0.BodyB (1 : Int) (1099511627776 : Int) else some default)
  fun (r396 : Bool) => Let (bif x395 then r396 else false) fun (x397 : Bool) => some x397
  else
  Rx.Bind (joint_inRange j0.BodyA (1 : Int) (1099511627776 : Int)) fun (r398 : Bool) =>
  Rx.Bind (if (r398 == true) = true then joint_inRange j0.BodyB (1 : Int) (1099511627776 : Int) else some default)
  fun (r399 : Bool) =>
  Let (bif r398 then r399 else false) fun (x400 : Bool) =>
  Let (j0.BodyA != j0.BodyB) fun (x401 : Bool) => Let (bif x400 then x401 else false) fun (x402 : Bool) => some x402

noncomputable def joint_inconsistent (j0 : Joint) : Option Bool :=
  Let (decide (j0.Axis.X = (0 : Int)) && decide (j0.Axis.Y = (0 : Int))) fun (x403 : Bool) =>
  Join
  (fun (v404 : PUnit) =>
  Let (!x403) fun (x405 : Bool) =>
  Let (bif x405 then true else j0.EnableMotor) fun (x406 : Bool) =>
  Let (bif x406 then true else j0.EnableLimit) fun (x407 : Bool) => some x407)
  fun (j408 : PUnit → Option Bool) =>
  Let (j0.Kind == (3 : Int)) fun (x409 : Bool) =>
  if x409 = true then
  Rx.Bind (vec2_Length j0.Axis) fun (r410 : Int) =>
  Rx.Bind (joint_inRange r410 (65520 : Int) (65552 : Int)) fun (r411 : Bool) => Let (!r411) fun (x412 : Bool) => some x412
  else
  Let (j0.Kind == (1 : Int)) fun (x413 : Bool) =>
  if x413 = true then
  Let (!x403) fun (x414 : Bool) =>
  Let (bif x414 then true else j0.EnableMotor) fun (x415 : Bool) =>
  Let (!j0.EnableLimit) fun (x416 : Bool) => Let (bif x415 then true else x416) fun (x417 : Bool) => some x417
  else
  Let (j0.Kind == (4 : Int)) fun (x418 : Bool) =>
  if x418 = true then j408 ()
  else
  Let (j0.Kind == (5 : Int)) fun (x419 : Bool) =>
  if x419 = true then j408 () else Let (!x403) fun (x420 : Bool) => some x420

noncomputable def joint_Validate (j0 : Joint) : Option Int :=
  Let (decide (j0.Kind < (1 : Int))) fun (x421 : Bool) =>
  Let (decide (j0.Kind > (5 : Int))) fun (x422 : Bool) =>
  Let (bif x421 then true else x422) fun (x423 : Bool) =>
  if x423 = true then some (10 : Int)
  else
  Rx.Bind (joint_numbersInRange j0) fun (r424 : Bool) =>
  Let (!r424) fun (x425 : Bool) =>
  if x425 = true then some (6 : Int)
  else
  Rx.Bind (joint_validBodies j0) fun (r426 : Bool) =>
  Let (!r426) fun (x427 : Bool) =>
  if x427 = true then some (14 : Int)
  else Rx.Bind (joint_inconsistent j0) fun (r428 : Bool) => if r428 = true then some (15 : Int) else some (0 : Int)

noncomputable def world_FindBody_1 (b0 : Body) (p1 : Int) : Option Bool :=
  Let (b0.ID == p1) fun (x429 : Bool) => some x429

noncomputable def slices_IndexFunc (s0 : (List Body)) (f1 : (Body → Option Bool)) : Option Int :=
  Let (↑s0.length : Int) fun (x430 : Int) =>
  LOOP
  (fun (rec431 : Int → Option Int) (s432 : Int) =>
  Let (decide (s432 < x430)) fun (x433 : Bool) =>
  if x433 = true then
  Chk ((0 : Int) ≤ s432 ∧ s432 < (↑s0.length : Int))
  (Let (ix s0 s432) fun (x434 : Body) =>
  Rx.Bind (f1 x434) fun (r435 : Bool) =>
  if r435 = true then some s432 else Let (IntKind.i64.wrap (s432 + (1 : Int))) fun (x436 : Int) => rec431 x436)
  else some (-1 : Int))
  fuel (0 : Int)

noncomputable def world_FindBody (w0 : World_) (id1 : Int) : Option Int :=
  Rx.Bind (slices_IndexFunc w0.Bodies fun (a : Tup tb [Ix.tBody]) => world_FindBody_1 a id1) fun (r437 : Int) => some r437

noncomputable def world_bodiesExist (w0 : World_) (j1 : Joint) : Option Bool :=
  Rx.Bind (world_FindBody w0 j1.BodyB) fun (r438 : Int) =>
  Let (decide (r438 ≥ (0 : Int))) fun (x439 : Bool) =>
  Let (j1.Kind == (5 : Int)) fun (x440 : Bool) =>
  Rx.Bind (if (x439 == true && x440 == false) = true then world_FindBody w0 j1.BodyA else some default)
  fun (r441 : Int) =>
  Let (decide (r441 ≥ (0 : Int))) fun (x442 : Bool) =>
  Let (bif x440 then true else x442) fun (x443 : Bool) =>
  Let (bif x439 then x443 else false) fun (x444 : Bool) => some x444

noncomputable def world_validJoints (w0 : World_) : Option Bool :=
  Let (↑w0.Joints.length : Int) fun (x445 : Int) =>
  LOOP
  (fun (rec446 : Int × Int → Option Bool) (s447 : Int × Int) =>
  Let (decide (s447.snd < x445)) fun (x448 : Bool) =>
  if x448 = true then
  Chk ((0 : Int) ≤ s447.snd ∧ s447.snd < (↑w0.Joints.length : Int))
  (Let (ix w0.Joints s447.snd) fun (x449 : Joint) =>
  Rx.Bind (joint_Validate x449) fun (r450 : Int) =>
  Let (r450 != (0 : Int)) fun (x451 : Bool) =>
  Let (decide (x449.ID ≥ w0.NextID)) fun (x452 : Bool) =>
  Let (bif x451 then true else x452) fun (x453 : Bool) =>
  Let (decide (x449.ID ≤ s447.fst)) fun (x454 : Bool) =>
  Let (bif x453 then true else x454) fun (x455 : Bool) =>
  Rx.Bind (if (x455 == false) = true then world_bodiesExist w0 x449 else some default) fun (r456 : Bool) =>
  Let (!r456) fun (x457 : Bool) =>
  Let (bif x455 then true else x457) fun (x458 : Bool) =>
  Rx.Bind (if (x458 == false) = true then world_FindBody w0 x449.ID else some default) fun (r459 : Int) =>
  Let (decide (r459 ≥ (0 : Int))) fun (x460 : Bool) =>
  Let (bif x458 then true else x460) fun (x461 : Bool) =>
  if x461 = true then some false
  else Let (IntKind.i64.wrap (s447.snd + (1 : Int))) fun (x462 : Int) => rec446 (x449.ID, x462))
  else some true)
  fuel ((0 : Int), (0 : Int))

noncomputable def slices_IndexFunc_236 (s0 : (List Int)) (f1 : (Int → Option Bool)) : Option Int :=
  Let (↑s0.length : Int) fun (x463 : Int) =>
  LOOP
  (fun (rec464 : Int → Option Int) (s465 : Int) =>
  Let (decide (s465 < x463)) fun (x466 : Bool) =>
  if x466 = true then
  Chk ((0 : Int) ≤ s465 ∧ s465 < (↑s0.length : Int))
  (Let (ix s0 s465) fun (x467 : Int) =>
  Rx.Bind (f1 x467) fun (r468 : Bool) =>
  if r468 = true then some s465 else Let (IntKind.i64.wrap (s465 + (1 : Int))) fun (x469 : Int) => rec464 x469)
  else some (-1 : Int))
  fuel (0 : Int)

noncomputable def slices_ContainsFunc_203 (s0 : (List Int)) (f1 : (Int → Option Bool)) : Option Bool :=
  Rx.Bind (slices_IndexFunc_236 s0 f1) fun (r470 : Int) => Let (decide (r470 ≥ (0 : Int))) fun (x471 : Bool) => some x471

noncomputable def world_saturated_1 (n0 : Int) : Option Bool :=
  Rx.Bind (world_in n0 (-536870911 : Int) (536870911 : Int)) fun (r472 : Bool) =>
  Let (!r472) fun (x473 : Bool) => some x473

noncomputable def world_saturated (values0 : (List Int)) : Option Bool :=
  Rx.Bind (slices_ContainsFunc_203 values0 fun (a : Tup tb [Ix.tint]) => world_saturated_1 a) fun (r474 : Bool) =>
  Let (!r474) fun (x475 : Bool) => some x475

noncomputable def slices_IndexFunc_205 (s0 : (List ContactPoint)) (f1 : (ContactPoint → Option Bool)) : Option Int :=
  Let (↑s0.length : Int) fun (x476 : Int) =>
  LOOP
  (fun (rec477 : Int → Option Int) (s478 : Int) =>
  Let (decide (s478 < x476)) fun (x479 : Bool) =>
  if x479 = true then
  Chk ((0 : Int) ≤ s478 ∧ s478 < (↑s0.length : Int))
  (Let (ix s0 s478) fun (x480 : ContactPoint) =>
  Rx.Bind (f1 x480) fun (r481 : Bool) =>
  if r481 = true then some s478 else Let (IntKind.i64.wrap (s478 + (1 : Int))) fun (x482 : Int) => rec477 x482)
  else some (-1 : Int))
  fuel (0 : Int)

noncomputable def slices_ContainsFunc_161 (s0 : (List ContactPoint)) (f1 : (ContactPoint → Option Bool)) : Option Bool :=
  Rx.Bind (slices_IndexFunc_205 s0 f1) fun (r483 : Int) => Let (decide (r483 ≥ (0 : Int))) fun (x484 : Bool) => some x484

noncomputable def world_validManifold_1 (p0 : ContactPoint) : Option Bool :=
  Let (decide (p0.NormalImpulse < (0 : Int))) fun (x485 : Bool) =>
  Rx.Bind
  (if (x485 == false) = true then
  world_saturated [p0.Point.X, p0.Point.Y, p0.Separation, p0.ID, p0.NormalImpulse, p0.TangentImpulse]
  else some default)
  fun (r486 : Bool) => Let (!r486) fun (x487 : Bool) => Let (bif x485 then true else x487) fun (x488 : Bool) => some x488

noncomputable def world_validManifold (m0 : Manifold) : Option Bool :=
  Let (↑m0.Points.length : Int) fun (x489 : Int) =>
  Let (decide (x489 < (1 : Int))) fun (x490 : Bool) =>
  Let (decide (x489 > (2 : Int))) fun (x491 : Bool) =>
  Let (bif x490 then true else x491) fun (x492 : Bool) =>
  Let (x489 == (2 : Int)) fun (x493 : Bool) =>
  Chk ((x492 == false && x493 == true) = true → (0 : Int) ≤ (0 : Int) ∧ (0 : Int) < (↑m0.Points.length : Int))
  (Let (ix m0.Points (0 : Int)) fun (x494 : ContactPoint) =>
  Chk ((x492 == false && x493 == true) = true → (0 : Int) ≤ (1 : Int) ∧ (1 : Int) < (↑m0.Points.length : Int))
  (Let (ix m0.Points (1 : Int)) fun (x495 : ContactPoint) =>
  Let (x494.ID == x495.ID) fun (x496 : Bool) =>
  Let (bif x493 then x496 else false) fun (x497 : Bool) =>
  Let (bif x492 then true else x497) fun (x498 : Bool) =>
  Rx.Bind (if (x498 == false) = true then world_saturated [m0.Normal.X, m0.Normal.Y] else some default)
  fun (r499 : Bool) =>
  Let (!r499) fun (x500 : Bool) =>
  Let (bif x498 then true else x500) fun (x501 : Bool) =>
  if x501 = true then some false
  else
  Rx.Bind (slices_ContainsFunc_161 m0.Points fun (a : Tup tb [Ix.tContactPoint]) => world_validManifold_1 a)
  fun (r502 : Bool) => Let (!r502) fun (x503 : Bool) => some x503))

noncomputable def broadphase_valid (k0 : PairKey) : Option Bool :=
  Let (decide (k0.BodyA < k0.BodyB)) fun (x504 : Bool) =>
  Let (decide (k0.FixtureA ≥ (0 : Int))) fun (x505 : Bool) =>
  Let (bif x504 then x505 else false) fun (x506 : Bool) =>
  Let (decide (k0.FixtureA < (4 : Int))) fun (x507 : Bool) =>
  Let (bif x506 then x507 else false) fun (x508 : Bool) =>
  Let (decide (k0.FixtureB ≥ (0 : Int))) fun (x509 : Bool) =>
  Let (bif x508 then x509 else false) fun (x510 : Bool) =>
  Let (decide (k0.FixtureB < (4 : Int))) fun (x511 : Bool) =>
  Let (bif x510 then x511 else false) fun (x512 : Bool) => some x512

noncomputable def cmp_isNaN (x0 : Int) : Option Bool :=
  Let (x0 != x0) fun (x513 : Bool) => some x513

noncomputable def cmp_Compare (x0 : Int) (y1 : Int) : Option Int :=
  Rx.Bind (cmp_isNaN x0) fun (r514 : Bool) =>
  Rx.Bind (cmp_isNaN y1) fun (r515 : Bool) =>
  if r514 = true then if r515 = true then some (0 : Int) else some (-1 : Int)
  else
  if r515 = true then some (1 : Int)
  else
  Let (decide (x0 < y1)) fun (x516 : Bool) =>
  if x516 = true then some (-1 : Int)
  else Let (decide (x0 > y1)) fun (x517 : Bool) => if x517 = true then some (1 : Int) else some (0 : Int)

noncomputable def cmp_Or (vals0 : (List Int)) : Option Int :=
  Let (↑vals0.length : Int) fun (x518 : Int) =>
  LOOP
  (fun (rec519 : Int → Option Int) (s520 : Int) =>
  Let (decide (s520 < x518)) fun (x521 : Bool) =>
  if x521 = true then
  Chk ((0 : Int) ≤ s520 ∧ s520 < (↑vals0.length : Int))
  (Let (ix vals0 s520) fun (x522 : Int) =>
  Let (x522 != (0 : Int)) fun (x523 : Bool) =>
  if x523 = true then some x522 else Let (IntKind.i64.wrap (s520 + (1 : Int))) fun (x524 : Int) => rec519 x524)
  else some (0 : Int))
  fuel (0 : Int)

noncomputable def broadphase_compare (a0 : PairKey) (b1 : PairKey) : Option Int :=
  Rx.Bind (cmp_Compare a0.BodyA b1.BodyA) fun (r525 : Int) =>
  Rx.Bind (cmp_Compare a0.FixtureA b1.FixtureA) fun (r526 : Int) =>
  Rx.Bind (cmp_Compare a0.BodyB b1.BodyB) fun (r527 : Int) =>
  Rx.Bind (cmp_Compare a0.FixtureB b1.FixtureB) fun (r528 : Int) =>
  Rx.Bind (cmp_Or [r525, r526, r527, r528]) fun (r529 : Int) => some r529

noncomputable def broadphase_Less (a0 : PairKey) (b1 : PairKey) : Option Bool :=
  Rx.Bind (broadphase_compare a0 b1) fun (r530 : Int) => Let (decide (r530 < (0 : Int))) fun (x531 : Bool) => some x531

noncomputable def broadphase_ValidKeys (keys0 : (List PairKey)) : Option Bool :=
  Let (↑keys0.length : Int) fun (x532 : Int) =>
  LOOP
  (fun (rec533 : Int × PairKey → Option Bool) (s534 : Int × PairKey) =>
  Let (decide (s534.fst < x532)) fun (x535 : Bool) =>
  if x535 = true then
  Chk ((0 : Int) ≤ s534.fst ∧ s534.fst < (↑keys0.length : Int))
  (Let (ix keys0 s534.fst) fun (x536 : PairKey) =>
  Rx.Bind (broadphase_valid x536) fun (r537 : Bool) =>
  Let (!r537) fun (x538 : Bool) =>
  Let (decide (s534.fst > (0 : Int))) fun (x539 : Bool) =>
  Let
  (decide (x536.BodyA = s534.snd.BodyA) &&
  (decide (x536.FixtureA = s534.snd.FixtureA) &&
  (decide (x536.BodyB = s534.snd.BodyB) && decide (x536.FixtureB = s534.snd.FixtureB))))
  fun (x540 : Bool) =>
  Rx.Bind
  (if (x538 == false && x539 == true && x540 == false) = true then broadphase_Less s534.snd x536 else some default)
  fun (r541 : Bool) =>
  Let (!r541) fun (x542 : Bool) =>
  Let (bif x540 then true else x542) fun (x543 : Bool) =>
  Let (bif x539 then x543 else false) fun (x544 : Bool) =>
  Let (bif x538 then true else x544) fun (x545 : Bool) =>
  if x545 = true then some false
  else Let (IntKind.i64.wrap (s534.fst + (1 : Int))) fun (x546 : Int) => rec533 (x546, x536))
  else some true)
  fuel ((0 : Int), { BodyA := (0 : Int), FixtureA := (0 : Int), BodyB := (0 : Int), FixtureB := (0 : Int) : PairKey })

noncomputable def slices_Concat (slices0 : (List (List PairKey))) : Option (List PairKey) :=
  Let (↑slices0.length : Int) fun (x547 : Int) =>
  LOOP
  (fun (rec548 : Int × Int → Option (List PairKey)) (s549 : Int × Int) =>
  Let (decide (s549.snd < x547)) fun (x550 : Bool) =>
  if x550 = true then
  Chk ((0 : Int) ≤ s549.snd ∧ s549.snd < (↑slices0.length : Int))
  (Let (ix slices0 s549.snd) fun (x551 : List PairKey) =>
  Let (↑x551.length : Int) fun (x552 : Int) =>
  Let (IntKind.i64.wrap (s549.fst + x552)) fun (x553 : Int) =>
  Let (decide (x553 < (0 : Int))) fun (x554 : Bool) =>
  if x554 = true then none else Let (IntKind.i64.wrap (s549.snd + (1 : Int))) fun (x555 : Int) => rec548 (x553, x555))
  else
  Let (decide (s549.fst < (0 : Int))) fun (x556 : Bool) =>
  if x556 = true then none
  else
  Join
  (fun (v557 : List PairKey) =>
  Let (↑slices0.length : Int) fun (x558 : Int) =>
  LOOP
  (fun (rec559 : List PairKey × Int → Option (List PairKey)) (s560 : List PairKey × Int) =>
  Let (decide (s560.snd < x558)) fun (x561 : Bool) =>
  if x561 = true then
  Chk ((0 : Int) ≤ s560.snd ∧ s560.snd < (↑slices0.length : Int))
  (Let (ix slices0 s560.snd) fun (x562 : List PairKey) =>
  Chk ((List.length s560.fst + x562.length) * (32 : Nat) ≤ (140737488355328 : Nat))
  (Let (s560.fst ++ x562) fun (x563 : List PairKey) =>
  Let (IntKind.i64.wrap (s560.snd + (1 : Int))) fun (x564 : Int) => rec559 (x563, x564)))
  else some s560.fst)
  fuel (v557, (0 : Int)))
  fun (j565 : List PairKey → Option (List PairKey)) =>
  Let (IntKind.i64.wrap ((0 : Int) - (0 : Int))) fun (x566 : Int) =>
  Let (IntKind.i64.wrap (s549.fst - x566)) fun (x567 : Int) =>
  Let (decide (x567 > (0 : Int))) fun (x568 : Bool) =>
  if x568 = true then
  Chk ((0 : Int) = (0 : Int))
  (Chk ((0 : Int) < x567 ∧ x567.toNat * (32 : Nat) ≤ (140737488355328 : Nat) ∧ x567 ≤ (9223372036854775807 : Int))
  (Let
  (List.replicate x567.toNat
  { BodyA := (0 : Int), FixtureA := (0 : Int), BodyB := (0 : Int), FixtureB := (0 : Int) : PairKey })
  fun (x569 : List PairKey) =>
  Chk
  ((0 : Int) ≤ none.getD (0 : Int) ∧
  (0 : Int) ≤ (some (0 : Int)).getD (0 : Int) ∧ (0 : Nat) ≤ Int.toNat (0 : Int) ∧ Int.toNat (0 : Int) ≤ x569.length)
  (Chk (Int.toNat (0 : Int) - (0 : Nat) ≤ x569.length)
  (Let (List.take (Int.toNat (0 : Int) - (0 : Nat)) x569) fun (x570 : List PairKey) => j565 x570))))
  else j565 [])
  fuel ((0 : Int), (0 : Int))

noncomputable def world_fixturesExist (w0 : World_) (k1 : PairKey) : Option Bool :=
  Rx.Bind (world_FindBody w0 k1.BodyA) fun (r571 : Int) =>
  Rx.Bind (world_FindBody w0 k1.BodyB) fun (r572 : Int) =>
  Let (decide (r571 ≥ (0 : Int))) fun (x573 : Bool) =>
  Let (decide (r572 ≥ (0 : Int))) fun (x574 : Bool) =>
  Let (bif x573 then x574 else false) fun (x575 : Bool) =>
  Chk ((x575 == true) = true → (0 : Int) ≤ r571 ∧ r571 < (↑w0.Bodies.length : Int))
  (Let (ix w0.Bodies r571) fun (x576 : Body) =>
  Let (↑x576.Fixtures.length : Int) fun (x577 : Int) =>
  Let (decide (k1.FixtureA < x577)) fun (x578 : Bool) =>
  Let (bif x575 then x578 else false) fun (x579 : Bool) =>
  Chk ((x579 == true) = true → (0 : Int) ≤ r572 ∧ r572 < (↑w0.Bodies.length : Int))
  (Let (ix w0.Bodies r572) fun (x580 : Body) =>
  Let (↑x580.Fixtures.length : Int) fun (x581 : Int) =>
  Let (decide (k1.FixtureB < x581)) fun (x582 : Bool) =>
  Let (bif x579 then x582 else false) fun (x583 : Bool) => some x583))

noncomputable def world_validContacts_1 (k0 : PairKey) (p1 : World_) : Option Bool :=
  Rx.Bind (world_fixturesExist p1 k0) fun (r584 : Bool) => Let (!r584) fun (x585 : Bool) => some x585

noncomputable def slices_IndexFunc_130 (s0 : (List PairKey)) (f1 : (PairKey → Option Bool)) : Option Int :=
  Let (↑s0.length : Int) fun (x586 : Int) =>
  LOOP
  (fun (rec587 : Int → Option Int) (s588 : Int) =>
  Let (decide (s588 < x586)) fun (x589 : Bool) =>
  if x589 = true then
  Chk ((0 : Int) ≤ s588 ∧ s588 < (↑s0.length : Int))
  (Let (ix s0 s588) fun (x590 : PairKey) =>
  Rx.Bind (f1 x590) fun (r591 : Bool) =>
  if r591 = true then some s588 else Let (IntKind.i64.wrap (s588 + (1 : Int))) fun (x592 : Int) => rec587 x592)
  else some (-1 : Int))
  fuel (0 : Int)

noncomputable def slices_ContainsFunc (s0 : (List PairKey)) (f1 : (PairKey → Option Bool)) : Option Bool :=
  Rx.Bind (slices_IndexFunc_130 s0 f1) fun (r593 : Int) => Let (decide (r593 ≥ (0 : Int))) fun (x594 : Bool) => some x594

noncomputable def world_validContacts (w0 : World_) : Option Bool :=
  Let (↑w0.Contacts.length : Int) fun (x595 : Int) =>
  LOOP
  (fun (rec596 : List PairKey × Int → Option Bool) (s597 : List PairKey × Int) =>
  Let (decide (s597.snd < x595)) fun (x598 : Bool) =>
  if x598 = true then
  Chk ((0 : Int) ≤ s597.snd ∧ s597.snd < (↑w0.Contacts.length : Int))
  (Let (ix w0.Contacts s597.snd) fun (x599 : Contact) =>
  Rx.Bind (world_validManifold x599.Manifold) fun (r600 : Bool) =>
  Let (!r600) fun (x601 : Bool) =>
  if x601 = true then some false
  else
  Chk ((List.length s597.fst + [x599.Key].length) * (32 : Nat) ≤ (140737488355328 : Nat))
  (Let (s597.fst ++ [x599.Key]) fun (x602 : List PairKey) =>
  Let (IntKind.i64.wrap (s597.snd + (1 : Int))) fun (x603 : Int) => rec596 (x602, x603)))
  else
  Rx.Bind (broadphase_ValidKeys s597.fst) fun (r604 : Bool) =>
  Let (!r604) fun (x605 : Bool) =>
  Rx.Bind (if (x605 == false) = true then broadphase_ValidKeys w0.Overlaps else some default) fun (r606 : Bool) =>
  Let (!r606) fun (x607 : Bool) =>
  Let (bif x605 then true else x607) fun (x608 : Bool) =>
  if x608 = true then some false
  else
  Rx.Bind (slices_Concat [s597.fst, w0.Overlaps]) fun (r609 : List PairKey) =>
  Rx.Bind (slices_ContainsFunc r609 fun (a : Tup tb [Ix.tPairKey]) => world_validContacts_1 a w0) fun (r610 : Bool) =>
  Let (!r610) fun (x611 : Bool) => some x611)
  fuel ([], (0 : Int))

noncomputable def world_Validate (w0 : World_) : Option Int :=
  Rx.Bind (world_ValidateSettings w0.Settings) fun (r612 : Int) =>
  Let (r612 != (0 : Int)) fun (x613 : Bool) =>
  if x613 = true then some (17 : Int)
  else
  Let (↑w0.Bodies.length : Int) fun (x614 : Int) =>
  Let (decide (x614 > (32 : Int))) fun (x615 : Bool) =>
  Let (↑w0.Joints.length : Int) fun (x616 : Int) =>
  Let (decide (x616 > (32 : Int))) fun (x617 : Bool) =>
  Let (bif x615 then true else x617) fun (x618 : Bool) =>
  Let (↑w0.Contacts.length : Int) fun (x619 : Int) =>
  Let (decide (x619 > (8192 : Int))) fun (x620 : Bool) =>
  Let (bif x618 then true else x620) fun (x621 : Bool) =>
  Let (↑w0.Overlaps.length : Int) fun (x622 : Int) =>
  Let (decide (x622 > (8192 : Int))) fun (x623 : Bool) =>
  Let (bif x621 then true else x623) fun (x624 : Bool) =>
  if x624 = true then some (11 : Int)
  else
  Rx.Bind (world_in w0.NextID (1 : Int) (1099511627776 : Int)) fun (r625 : Bool) =>
  Let (!r625) fun (x626 : Bool) =>
  Rx.Bind (if (x626 == false) = true then world_in w0.Frame (0 : Int) (1099511627776 : Int) else some default)
  fun (r627 : Bool) =>
  Let (!r627) fun (x628 : Bool) =>
  Let (bif x626 then true else x628) fun (x629 : Bool) =>
  if x629 = true then some (6 : Int)
  else
  Rx.Bind (world_validBodies w0) fun (r630 : Bool) =>
  Let (!r630) fun (x631 : Bool) =>
  if x631 = true then some (14 : Int)
  else
  Rx.Bind (world_validJoints w0) fun (r632 : Bool) =>
  Let (!r632) fun (x633 : Bool) =>
  if x633 = true then some (15 : Int)
  else
  Rx.Bind (world_validContacts w0) fun (r634 : Bool) =>
  Let (!r634) fun (x635 : Bool) => if x635 = true then some (16 : Int) else some (0 : Int)

noncomputable def input_UsedFields (k0 : Int) : Option (Bool × Bool × Bool) :=
  Join
  (fun (v636 : Bool) =>
  if v636 = true then some (true, true, false)
  else
  Join
  (fun (v637 : Bool) =>
  if v637 = true then some (true, false, true)
  else
  Join
  (fun (v638 : Bool) =>
  if v638 = true then some (true, true, true)
  else
  Join (fun (v639 : Bool) => if v639 = true then some (true, false, false) else some (false, false, false))
  fun (j640 : Bool → Option (Bool × Bool × Bool)) =>
  Let (k0 == (6 : Int)) fun (x641 : Bool) =>
  if x641 = true then j640 x641
  else
  Let (k0 == (10 : Int)) fun (x642 : Bool) =>
  if x642 = true then j640 x642 else Let (k0 == (12 : Int)) fun (x643 : Bool) => j640 x643)
  fun (j644 : Bool → Option (Bool × Bool × Bool)) =>
  Let (k0 == (4 : Int)) fun (x645 : Bool) =>
  if x645 = true then j644 x645 else Let (k0 == (5 : Int)) fun (x646 : Bool) => j644 x646)
  fun (j647 : Bool → Option (Bool × Bool × Bool)) =>
  Let (k0 == (3 : Int)) fun (x648 : Bool) =>
  if x648 = true then j647 x648 else Let (k0 == (8 : Int)) fun (x649 : Bool) => j647 x649)
  fun (j650 : Bool → Option (Bool × Bool × Bool)) =>
  Let (k0 == (1 : Int)) fun (x651 : Bool) =>
  if x651 = true then j650 x651
  else
  Let (k0 == (2 : Int)) fun (x652 : Bool) =>
  if x652 = true then j650 x652 else Let (k0 == (7 : Int)) fun (x653 : Bool) => j650 x653

noncomputable def input_isSaturated (n0 : Int) : Option Bool :=
  Let (decide (n0 ≥ (-536870911 : Int))) fun (x654 : Bool) =>
  Let (decide (n0 ≤ (536870911 : Int))) fun (x655 : Bool) =>
  Let (bif x654 then x655 else false) fun (x656 : Bool) => some x656

noncomputable def slices_Equal_166 (s10 : (List Vec)) (s21 : (List Vec)) : Option Bool :=
  Let (↑s10.length : Int) fun (x657 : Int) =>
  Let (↑s21.length : Int) fun (x658 : Int) =>
  Let (x657 != x658) fun (x659 : Bool) =>
  if x659 = true then some false
  else
  Let (↑s10.length : Int) fun (x660 : Int) =>
  LOOP
  (fun (rec661 : Int → Option Bool) (s662 : Int) =>
  Let (decide (s662 < x660)) fun (x663 : Bool) =>
  if x663 = true then
  Chk ((0 : Int) ≤ s662 ∧ s662 < (↑s10.length : Int))
  (Let (ix s10 s662) fun (x664 : Vec) =>
  Chk ((0 : Int) ≤ s662 ∧ s662 < (↑s21.length : Int))
  (Let (ix s21 s662) fun (x665 : Vec) =>
  Let (!(decide (x664.X = x665.X) && decide (x664.Y = x665.Y))) fun (x666 : Bool) =>
  if x666 = true then some false else Let (IntKind.i64.wrap (s662 + (1 : Int))) fun (x667 : Int) => rec661 x667))
  else some true)
  fuel (0 : Int)

noncomputable def shape_Equal (a0 : Shape) (b1 : Shape) : Option Bool :=
  Let (a0.Kind == b1.Kind) fun (x668 : Bool) =>
  Let (a0.Radius == b1.Radius) fun (x669 : Bool) =>
  Let (bif x668 then x669 else false) fun (x670 : Bool) =>
  Rx.Bind (if (x670 == true) = true then slices_Equal_166 a0.Vertices b1.Vertices else some default) fun (r671 : Bool) =>
  Let (bif x670 then r671 else false) fun (x672 : Bool) => some x672

noncomputable def body_equalFixtures (a0 : Fixture) (b1 : Fixture) : Option Bool :=
  Let (a0.Density == b1.Density) fun (x673 : Bool) =>
  Let (a0.Friction == b1.Friction) fun (x674 : Bool) =>
  Let (bif x673 then x674 else false) fun (x675 : Bool) =>
  Let (a0.Restitution == b1.Restitution) fun (x676 : Bool) =>
  Let (bif x675 then x676 else false) fun (x677 : Bool) =>
  Let (a0.Sensor == b1.Sensor) fun (x678 : Bool) =>
  Let (a0.Category == b1.Category) fun (x679 : Bool) =>
  Let (bif x678 then x679 else false) fun (x680 : Bool) =>
  Let (a0.Mask == b1.Mask) fun (x681 : Bool) =>
  Let (bif x680 then x681 else false) fun (x682 : Bool) =>
  Let (a0.Group == b1.Group) fun (x683 : Bool) =>
  Let (bif x682 then x683 else false) fun (x684 : Bool) =>
  Rx.Bind (shape_Equal a0.Shape b1.Shape) fun (r685 : Bool) =>
  Let (bif r685 then x677 else false) fun (x686 : Bool) =>
  Let (bif x686 then x684 else false) fun (x687 : Bool) => some x687

noncomputable def body_Equal (a0 : Body) (b1 : Body) : Option Bool :=
  Let (↑a0.Fixtures.length : Int) fun (x688 : Int) =>
  Let (↑b1.Fixtures.length : Int) fun (x689 : Int) =>
  Let (x688 != x689) fun (x690 : Bool) =>
  if x690 = true then some false
  else
  Let (↑a0.Fixtures.length : Int) fun (x691 : Int) =>
  LOOP
  (fun (rec692 : Int → Option Bool) (s693 : Int) =>
  Let (decide (s693 < x691)) fun (x694 : Bool) =>
  if x694 = true then
  Chk ((0 : Int) ≤ s693 ∧ s693 < (↑a0.Fixtures.length : Int))
  (Let (ix a0.Fixtures s693) fun (x695 : Fixture) =>
  Chk ((0 : Int) ≤ s693 ∧ s693 < (↑b1.Fixtures.length : Int))
  (Let (ix b1.Fixtures s693) fun (x696 : Fixture) =>
  Rx.Bind (body_equalFixtures x695 x696) fun (r697 : Bool) =>
  Let (!r697) fun (x698 : Bool) =>
  if x698 = true then some false else Let (IntKind.i64.wrap (s693 + (1 : Int))) fun (x699 : Int) => rec692 x699))
  else
  Let (a0.ID == b1.ID) fun (x700 : Bool) =>
  Let (a0.Kind == b1.Kind) fun (x701 : Bool) =>
  Let (bif x700 then x701 else false) fun (x702 : Bool) =>
  Let
  (decide (a0.Transform.Position.X = b1.Transform.Position.X) &&
  decide (a0.Transform.Position.Y = b1.Transform.Position.Y) &&
  decide (a0.Transform.Angle = b1.Transform.Angle))
  fun (x703 : Bool) =>
  Let (bif x702 then x703 else false) fun (x704 : Bool) =>
  Let (decide (a0.Velocity.X = b1.Velocity.X) && decide (a0.Velocity.Y = b1.Velocity.Y)) fun (x705 : Bool) =>
  Let (a0.AngularVelocity == b1.AngularVelocity) fun (x706 : Bool) =>
  Let (bif x705 then x706 else false) fun (x707 : Bool) =>
  Let (decide (a0.Force.X = b1.Force.X) && decide (a0.Force.Y = b1.Force.Y)) fun (x708 : Bool) =>
  Let (a0.Torque == b1.Torque) fun (x709 : Bool) =>
  Let (bif x708 then x709 else false) fun (x710 : Bool) =>
  Let (a0.LinearDamping == b1.LinearDamping) fun (x711 : Bool) =>
  Let (a0.AngularDamping == b1.AngularDamping) fun (x712 : Bool) =>
  Let (bif x711 then x712 else false) fun (x713 : Bool) =>
  Let (a0.GravityScale == b1.GravityScale) fun (x714 : Bool) =>
  Let (bif x713 then x714 else false) fun (x715 : Bool) =>
  Let (a0.Bullet == b1.Bullet) fun (x716 : Bool) =>
  Let (a0.FixedRotation == b1.FixedRotation) fun (x717 : Bool) =>
  Let (bif x716 then x717 else false) fun (x718 : Bool) =>
  Let (a0.NoSleep == b1.NoSleep) fun (x719 : Bool) =>
  Let (bif x718 then x719 else false) fun (x720 : Bool) =>
  Let (a0.Asleep == b1.Asleep) fun (x721 : Bool) =>
  Let (a0.IdleSteps == b1.IdleSteps) fun (x722 : Bool) =>
  Let (bif x721 then x722 else false) fun (x723 : Bool) =>
  Let (bif x704 then x707 else false) fun (x724 : Bool) =>
  Let (bif x724 then x710 else false) fun (x725 : Bool) =>
  Let (bif x725 then x715 else false) fun (x726 : Bool) =>
  Let (bif x726 then x720 else false) fun (x727 : Bool) =>
  Let (bif x727 then x723 else false) fun (x728 : Bool) => some x728)
  fuel (0 : Int)

noncomputable def input_Validate (x0 : Input) : Option Int :=
  Let (decide (x0.Kind < (1 : Int))) fun (x729 : Bool) =>
  Let (decide (x0.Kind > (12 : Int))) fun (x730 : Bool) =>
  Let (bif x729 then true else x730) fun (x731 : Bool) =>
  if x731 = true then some (10 : Int)
  else
  Rx.Bind (input_UsedFields x0.Kind) fun (r732 : Bool × Bool × Bool) =>
  Join
  (fun (v733 : Bool) =>
  if v733 = true then some (6 : Int)
  else
  Join (fun (v734 : Bool) => if v734 = true then some (3 : Int) else some (0 : Int)) fun (j735 : Bool → Option Int) =>
  Let (!r732.fst) fun (x736 : Bool) =>
  Let (x0.ID != (0 : Int)) fun (x737 : Bool) =>
  Let (bif x736 then x737 else false) fun (x738 : Bool) =>
  if x738 = true then j735 x738
  else
  Let (!r732.snd.fst) fun (x739 : Bool) =>
  Let (!(decide (x0.Vec.X = (0 : Int)) && decide (x0.Vec.Y = (0 : Int)))) fun (x740 : Bool) =>
  Let (bif x739 then x740 else false) fun (x741 : Bool) =>
  if x741 = true then j735 x741
  else
  Let (!r732.snd.snd) fun (x742 : Bool) =>
  Let (x0.Value != (0 : Int)) fun (x743 : Bool) =>
  Let (bif x742 then x743 else false) fun (x744 : Bool) =>
  if x744 = true then j735 x744
  else
  Let (x0.Kind != (9 : Int)) fun (x745 : Bool) =>
  Rx.Bind
  (if (x745 == true) = true then
  body_Equal x0.Body
  { ID := (0 : Int), Kind := (0 : Int), Transform := { Position := { X := (0 : Int), Y := (0 : Int) : Vec }, Angle := (0 : Int) : Transform }, Velocity := { X := (0 : Int), Y := (0 : Int) : Vec }, AngularVelocity := (0 : Int), Force := { X := (0 : Int), Y := (0 : Int) : Vec }, Torque := (0 : Int), LinearDamping := (0 : Int), AngularDamping := (0 : Int), GravityScale := (0 : Int), Bullet := false, FixedRotation := false, NoSleep := false, Asleep := false, IdleSteps := (0 : Int), Fixtures := [] : Body }
  else some default)
  fun (r746 : Bool) =>
  Let (!r746) fun (x747 : Bool) =>
  Let (bif x745 then x747 else false) fun (x748 : Bool) =>
  if x748 = true then j735 x748
  else
  Let (x0.Kind != (11 : Int)) fun (x749 : Bool) =>
  Let
  (!(decide (x0.Joint.ID = (0 : Int)) &&
  (decide (x0.Joint.Kind = (0 : Int)) &&
  (decide (x0.Joint.BodyA = (0 : Int)) &&
  (decide (x0.Joint.BodyB = (0 : Int)) &&
  (decide (x0.Joint.AnchorA.X = (0 : Int)) && decide (x0.Joint.AnchorA.Y = (0 : Int)) &&
  (decide (x0.Joint.AnchorB.X = (0 : Int)) && decide (x0.Joint.AnchorB.Y = (0 : Int)) &&
  (decide (x0.Joint.Axis.X = (0 : Int)) && decide (x0.Joint.Axis.Y = (0 : Int)) &&
  (decide (x0.Joint.ReferenceAngle = (0 : Int)) &&
  (decide (x0.Joint.EnableLimit = false) &&
  (decide (x0.Joint.Lower = (0 : Int)) &&
  (decide (x0.Joint.Upper = (0 : Int)) &&
  (decide (x0.Joint.EnableMotor = false) &&
  (decide (x0.Joint.MotorSpeed = (0 : Int)) &&
  (decide (x0.Joint.MaxForce = (0 : Int)) &&
  (decide (x0.Joint.Softness = (0 : Int)) &&
  (decide (x0.Joint.BreakForce = (0 : Int)) &&
  (decide (x0.Joint.CollideConnected = false) &&
  (decide (x0.Joint.Impulses.fst = (0 : Int)) &&
  (decide (x0.Joint.Impulses.snd.fst = (0 : Int)) &&
  (decide (x0.Joint.Impulses.snd.snd.fst = (0 : Int)) &&
  decide (x0.Joint.Impulses.snd.snd.snd = (0 : Int)))))))))))))))))))))))
  fun (x750 : Bool) => Let (bif x749 then x750 else false) fun (x751 : Bool) => j735 x751)
  fun (j752 : Bool → Option Int) =>
  Let (decide (x0.ID < (1 : Int))) fun (x753 : Bool) =>
  Let (decide (x0.ID > (1099511627776 : Int))) fun (x754 : Bool) =>
  Let (bif x753 then true else x754) fun (x755 : Bool) =>
  Let (bif r732.fst then x755 else false) fun (x756 : Bool) =>
  if x756 = true then j752 x756
  else
  Rx.Bind (if (r732.snd.fst == true) = true then input_isSaturated x0.Vec.X else some default) fun (r757 : Bool) =>
  Let (!r757) fun (x758 : Bool) =>
  Rx.Bind (if (r732.snd.fst == true && x758 == false) = true then input_isSaturated x0.Vec.Y else some default)
  fun (r759 : Bool) =>
  Let (!r759) fun (x760 : Bool) =>
  Let (bif x758 then true else x760) fun (x761 : Bool) =>
  Let (bif r732.snd.fst then x761 else false) fun (x762 : Bool) =>
  if x762 = true then j752 x762
  else
  Rx.Bind (if (r732.snd.snd == true) = true then input_isSaturated x0.Value else some default) fun (r763 : Bool) =>
  Let (!r763) fun (x764 : Bool) => Let (bif r732.snd.snd then x764 else false) fun (x765 : Bool) => j752 x765

noncomputable def slices_Clone_158 (s0 : (List Vec)) : Option (List Vec) :=
  Rx.Alike (s0 = []) (some []) (Chk (s0.length * (16 : Nat) ≤ (140737488355328 : Nat)) (some s0))

noncomputable def shape_Clone (s0 : Shape) : Option Shape :=
  Rx.Bind (slices_Clone_158 s0.Vertices) fun (r766 : List Vec) =>
  some { Kind := s0.Kind, Radius := s0.Radius, Vertices := r766 : Shape }

noncomputable def body_Clone (b0 : Body) : Option Body :=
  Let (↑b0.Fixtures.length : Int) fun (x767 : Int) =>
  LOOP
  (fun (rec768 : List Fixture × Int → Option Body) (s769 : List Fixture × Int) =>
  Let (decide (s769.snd < x767)) fun (x770 : Bool) =>
  if x770 = true then
  Chk ((0 : Int) ≤ s769.snd ∧ s769.snd < (↑b0.Fixtures.length : Int))
  (Let (ix b0.Fixtures s769.snd) fun (x771 : Fixture) =>
  Rx.Bind (shape_Clone x771.Shape) fun (r772 : Shape) =>
  Chk
  ((List.length s769.fst +
  [{ Shape := r772, Density := x771.Density, Friction := x771.Friction, Restitution := x771.Restitution, Sensor := x771.Sensor, Category := x771.Category, Mask := x771.Mask, Group := x771.Group : Fixture }].length) *
  (96 : Nat) ≤
  (140737488355328 : Nat))
  (Let
  (s769.fst ++
  [{ Shape := r772, Density := x771.Density, Friction := x771.Friction, Restitution := x771.Restitution, Sensor := x771.Sensor, Category := x771.Category, Mask := x771.Mask, Group := x771.Group : Fixture }])
  fun (x773 : List Fixture) => Let (IntKind.i64.wrap (s769.snd + (1 : Int))) fun (x774 : Int) => rec768 (x773, x774)))
  else
  some
  { ID := b0.ID, Kind := b0.Kind, Transform := b0.Transform, Velocity := b0.Velocity, AngularVelocity := b0.AngularVelocity, Force := b0.Force, Torque := b0.Torque, LinearDamping := b0.LinearDamping, AngularDamping := b0.AngularDamping, GravityScale := b0.GravityScale, Bullet := b0.Bullet, FixedRotation := b0.FixedRotation, NoSleep := b0.NoSleep, Asleep := b0.Asleep, IdleSteps := b0.IdleSteps, Fixtures := s769.fst : Body })
  fuel ([], (0 : Int))

noncomputable def slices_Clone (s0 : (List Body)) : Option (List Body) :=
  Rx.Alike (s0 = []) (some []) (Chk (s0.length * (152 : Nat) ≤ (140737488355328 : Nat)) (some s0))

noncomputable def slices_Clone_107 (s0 : (List Joint)) : Option (List Joint) :=
  Rx.Alike (s0 = []) (some []) (Chk (s0.length * (192 : Nat) ≤ (140737488355328 : Nat)) (some s0))

noncomputable def slices_Clone_108 (s0 : (List Contact)) : Option (List Contact) :=
  Rx.Alike (s0 = []) (some []) (Chk (s0.length * (72 : Nat) ≤ (140737488355328 : Nat)) (some s0))

noncomputable def slices_Clone_109 (s0 : (List PairKey)) : Option (List PairKey) :=
  Rx.Alike (s0 = []) (some []) (Chk (s0.length * (32 : Nat) ≤ (140737488355328 : Nat)) (some s0))

noncomputable def slices_Clone_159 (s0 : (List ContactPoint)) : Option (List ContactPoint) :=
  Rx.Alike (s0 = []) (some []) (Chk (s0.length * (48 : Nat) ≤ (140737488355328 : Nat)) (some s0))

noncomputable def manifold_Clone (m0 : Manifold) : Option Manifold :=
  Rx.Bind (slices_Clone_159 m0.Points) fun (r775 : List ContactPoint) =>
  some { Normal := m0.Normal, Points := r775 : Manifold }

noncomputable def world_Clone (w0 : World_) : Option World_ :=
  Rx.Bind (slices_Clone w0.Bodies) fun (r776 : List Body) =>
  Rx.Bind (slices_Clone_107 w0.Joints) fun (r777 : List Joint) =>
  Rx.Bind (slices_Clone_108 w0.Contacts) fun (r778 : List Contact) =>
  Rx.Bind (slices_Clone_109 w0.Overlaps) fun (r779 : List PairKey) =>
  Let (↑r776.length : Int) fun (x780 : Int) =>
  LOOP
  (fun (rec781 : Int × List Body → Option World_) (s782 : Int × List Body) =>
  Let (decide (s782.fst < x780)) fun (x783 : Bool) =>
  if x783 = true then
  Chk ((0 : Int) ≤ s782.fst ∧ s782.fst < (↑(List.length s782.snd) : Int))
  (Chk ((0 : Int) ≤ s782.fst ∧ s782.fst < (↑(List.length s782.snd) : Int))
  (Let (ix s782.snd s782.fst) fun (x784 : Body) =>
  Rx.Bind (body_Clone x784) fun (r785 : Body) =>
  Chk ((0 : Int) ≤ s782.fst ∧ s782.fst < (↑(List.length s782.snd) : Int))
  (Chk ((0 : Int) ≤ s782.fst ∧ s782.fst < (↑(List.length s782.snd) : Int))
  (Let (List.set s782.snd (Int.toNat s782.fst) r785) fun (x786 : List Body) =>
  Let (IntKind.i64.wrap (s782.fst + (1 : Int))) fun (x787 : Int) => rec781 (x787, x786)))))
  else
  Let (↑r778.length : Int) fun (x788 : Int) =>
  LOOP
  (fun (rec789 : Int × List Contact → Option World_) (s790 : Int × List Contact) =>
  Let (decide (s790.fst < x788)) fun (x791 : Bool) =>
  if x791 = true then
  Chk ((0 : Int) ≤ s790.fst ∧ s790.fst < (↑(List.length s790.snd) : Int))
  (Chk ((0 : Int) ≤ s790.fst ∧ s790.fst < (↑(List.length s790.snd) : Int))
  (Let (ix s790.snd s790.fst) fun (x792 : Contact) =>
  Rx.Bind (manifold_Clone x792.Manifold) fun (r793 : Manifold) =>
  Chk ((0 : Int) ≤ s790.fst ∧ s790.fst < (↑(List.length s790.snd) : Int))
  (Chk ((0 : Int) ≤ s790.fst ∧ s790.fst < (↑(List.length s790.snd) : Int))
  (Let (List.set s790.snd (Int.toNat s790.fst) { Key := (ix s790.snd s790.fst).Key, Manifold := r793 : Contact })
  fun (x794 : List Contact) => Let (IntKind.i64.wrap (s790.fst + (1 : Int))) fun (x795 : Int) => rec789 (x795, x794)))))
  else
  some
  { Settings := w0.Settings, Bodies := s782.snd, Joints := r777, Contacts := s790.snd, Overlaps := r779, NextID := w0.NextID, Frame := w0.Frame : World_ })
  fuel ((0 : Int), r778))
  fuel ((0 : Int), r776)

noncomputable def world_AddBody (w0 : World_) (b1 : Body) : Option (World_ × Int × Int) :=
  Let (↑w0.Bodies.length : Int) fun (x796 : Int) =>
  Let (decide (x796 ≥ (32 : Int))) fun (x797 : Bool) =>
  Let (decide (w0.NextID ≥ (1099511627776 : Int))) fun (x798 : Bool) =>
  Let (bif x797 then true else x798) fun (x799 : Bool) =>
  if x799 = true then
  some
  ({ Settings := { TimeStep := (0 : Int), Gravity := { X := (0 : Int), Y := (0 : Int) : Vec }, Iterations := (0 : Int), SleepSteps := (0 : Int) : Settings }, Bodies := [], Joints := [], Contacts := [], Overlaps := [], NextID := (0 : Int), Frame := (0 : Int) : World_ },
  (0 : Int), (9 : Int))
  else
  Rx.Bind (body_Clone b1) fun (r800 : Body) =>
  Rx.Bind
  (body_Validate
  { ID := w0.NextID, Kind := r800.Kind, Transform := r800.Transform, Velocity := r800.Velocity, AngularVelocity := r800.AngularVelocity, Force := r800.Force, Torque := r800.Torque, LinearDamping := r800.LinearDamping, AngularDamping := r800.AngularDamping, GravityScale := r800.GravityScale, Bullet := r800.Bullet, FixedRotation := r800.FixedRotation, NoSleep := r800.NoSleep, Asleep := r800.Asleep, IdleSteps := r800.IdleSteps, Fixtures := r800.Fixtures : Body })
  fun (r801 : Int) =>
  Let (r801 != (0 : Int)) fun (x802 : Bool) =>
  if x802 = true then
  some
  ({ Settings := { TimeStep := (0 : Int), Gravity := { X := (0 : Int), Y := (0 : Int) : Vec }, Iterations := (0 : Int), SleepSteps := (0 : Int) : Settings }, Bodies := [], Joints := [], Contacts := [], Overlaps := [], NextID := (0 : Int), Frame := (0 : Int) : World_ },
  (0 : Int), (14 : Int))
  else
  Rx.Bind (world_Clone w0) fun (r803 : World_) =>
  Chk
  ((r803.Bodies.length +
  [{ ID := w0.NextID, Kind := r800.Kind, Transform := r800.Transform, Velocity := r800.Velocity, AngularVelocity := r800.AngularVelocity, Force := r800.Force, Torque := r800.Torque, LinearDamping := r800.LinearDamping, AngularDamping := r800.AngularDamping, GravityScale := r800.GravityScale, Bullet := r800.Bullet, FixedRotation := r800.FixedRotation, NoSleep := r800.NoSleep, Asleep := r800.Asleep, IdleSteps := r800.IdleSteps, Fixtures := r800.Fixtures : Body }].length) *
  (152 : Nat) ≤
  (140737488355328 : Nat))
  (Let
  (r803.Bodies ++
  [{ ID := w0.NextID, Kind := r800.Kind, Transform := r800.Transform, Velocity := r800.Velocity, AngularVelocity := r800.AngularVelocity, Force := r800.Force, Torque := r800.Torque, LinearDamping := r800.LinearDamping, AngularDamping := r800.AngularDamping, GravityScale := r800.GravityScale, Bullet := r800.Bullet, FixedRotation := r800.FixedRotation, NoSleep := r800.NoSleep, Asleep := r800.Asleep, IdleSteps := r800.IdleSteps, Fixtures := r800.Fixtures : Body }])
  fun (x804 : List Body) =>
  Let (IntKind.i64.wrap (r803.NextID + (1 : Int))) fun (x805 : Int) =>
  some
  ({ Settings := r803.Settings, Bodies := x804, Joints := r803.Joints, Contacts := r803.Contacts, Overlaps := r803.Overlaps, NextID := x805, Frame := r803.Frame : World_ },
  w0.NextID, (0 : Int)))

noncomputable def joint_ResetImpulses (j0 : Joint) : Option Joint :=
  Let
  (decide (j0.Impulses.fst = (0 : Int)) &&
  (decide (j0.Impulses.snd.fst = (0 : Int)) &&
  (decide (j0.Impulses.snd.snd.fst = (0 : Int)) && decide (j0.Impulses.snd.snd.snd = (0 : Int)))))
  fun (x806 : Bool) =>
  if x806 = true then some j0
  else
  some
  { ID := j0.ID, Kind := j0.Kind, BodyA := j0.BodyA, BodyB := j0.BodyB, AnchorA := j0.AnchorA, AnchorB := j0.AnchorB, Axis := j0.Axis, ReferenceAngle := j0.ReferenceAngle, EnableLimit := j0.EnableLimit, Lower := j0.Lower, Upper := j0.Upper, EnableMotor := j0.EnableMotor, MotorSpeed := j0.MotorSpeed, MaxForce := j0.MaxForce, Softness := j0.Softness, BreakForce := j0.BreakForce, CollideConnected := j0.CollideConnected, Impulses := ((0 : Int), (0 : Int), (0 : Int), (0 : Int)) : Joint }

noncomputable def world_WakeBody (w0 : World_) (id1 : Int) : Option World_ :=
  Rx.Bind (world_Clone w0) fun (r807 : World_) =>
  Join
  (fun (v808 : List Body) =>
  some
  { Settings := r807.Settings, Bodies := v808, Joints := r807.Joints, Contacts := r807.Contacts, Overlaps := r807.Overlaps, NextID := r807.NextID, Frame := r807.Frame : World_ })
  fun (j809 : List Body → Option World_) =>
  Rx.Bind (world_FindBody r807 id1) fun (r810 : Int) =>
  Let (decide (r810 ≥ (0 : Int))) fun (x811 : Bool) =>
  Chk ((x811 == true) = true → (0 : Int) ≤ r810 ∧ r810 < (↑r807.Bodies.length : Int))
  (Chk ((x811 == true) = true → (0 : Int) ≤ r810 ∧ r810 < (↑r807.Bodies.length : Int))
  (Let (ix r807.Bodies r810) fun (x812 : Body) =>
  Let (x812.Kind == (3 : Int)) fun (x813 : Bool) =>
  Let (bif x811 then x813 else false) fun (x814 : Bool) =>
  if x814 = true then
  Chk ((0 : Int) ≤ r810 ∧ r810 < (↑r807.Bodies.length : Int))
  (Chk ((0 : Int) ≤ r810 ∧ r810 < (↑r807.Bodies.length : Int))
  (Let
  (r807.Bodies.set r810.toNat
  { ID := (ix r807.Bodies r810).ID, Kind := (ix r807.Bodies r810).Kind, Transform := (ix r807.Bodies r810).Transform, Velocity := (ix r807.Bodies r810).Velocity, AngularVelocity := (ix r807.Bodies r810).AngularVelocity, Force := (ix r807.Bodies r810).Force, Torque := (ix r807.Bodies r810).Torque, LinearDamping := (ix r807.Bodies r810).LinearDamping, AngularDamping := (ix r807.Bodies r810).AngularDamping, GravityScale := (ix r807.Bodies r810).GravityScale, Bullet := (ix r807.Bodies r810).Bullet, FixedRotation := (ix r807.Bodies r810).FixedRotation, NoSleep := (ix r807.Bodies r810).NoSleep, Asleep := false, IdleSteps := (ix r807.Bodies r810).IdleSteps, Fixtures := (ix r807.Bodies r810).Fixtures : Body })
  fun (x815 : List Body) =>
  Chk ((0 : Int) ≤ r810 ∧ r810 < (↑x815.length : Int))
  (Chk ((0 : Int) ≤ r810 ∧ r810 < (↑x815.length : Int))
  (Let
  (x815.set r810.toNat
  { ID := (ix x815 r810).ID, Kind := (ix x815 r810).Kind, Transform := (ix x815 r810).Transform, Velocity := (ix x815 r810).Velocity, AngularVelocity := (ix x815 r810).AngularVelocity, Force := (ix x815 r810).Force, Torque := (ix x815 r810).Torque, LinearDamping := (ix x815 r810).LinearDamping, AngularDamping := (ix x815 r810).AngularDamping, GravityScale := (ix x815 r810).GravityScale, Bullet := (ix x815 r810).Bullet, FixedRotation := (ix x815 r810).FixedRotation, NoSleep := (ix x815 r810).NoSleep, Asleep := (ix x815 r810).Asleep, IdleSteps := (0 : Int), Fixtures := (ix x815 r810).Fixtures : Body })
  fun (x816 : List Body) => j809 x816))))
  else j809 r807.Bodies))

noncomputable def world_wakeAll (w0 : World_) (ids1 : (List Int)) : Option World_ :=
  Let (↑ids1.length : Int) fun (x817 : Int) =>
  LOOP
  (fun (rec818 : Int × World_ → Option World_) (s819 : Int × World_) =>
  Let (decide (s819.fst < x817)) fun (x820 : Bool) =>
  if x820 = true then
  Join (fun (v821 : World_) => Let (IntKind.i64.wrap (s819.fst + (1 : Int))) fun (x822 : Int) => rec818 (x822, v821))
  fun (j823 : World_ → Option World_) =>
  Chk ((0 : Int) ≤ s819.fst ∧ s819.fst < (↑ids1.length : Int))
  (Let (ix ids1 s819.fst) fun (x824 : Int) =>
  Let (x824 != (0 : Int)) fun (x825 : Bool) =>
  if x825 = true then Rx.Bind (world_WakeBody s819.snd x824) fun (r826 : World_) => j823 r826 else j823 s819.snd)
  else some s819.snd)
  fuel ((0 : Int), w0)

noncomputable def world_AddJoint (w0 : World_) (j1 : Joint) : Option (World_ × Int × Int) :=
  Let (↑w0.Joints.length : Int) fun (x827 : Int) =>
  Let (decide (x827 ≥ (32 : Int))) fun (x828 : Bool) =>
  Let (decide (w0.NextID ≥ (1099511627776 : Int))) fun (x829 : Bool) =>
  Let (bif x828 then true else x829) fun (x830 : Bool) =>
  if x830 = true then
  some
  ({ Settings := { TimeStep := (0 : Int), Gravity := { X := (0 : Int), Y := (0 : Int) : Vec }, Iterations := (0 : Int), SleepSteps := (0 : Int) : Settings }, Bodies := [], Joints := [], Contacts := [], Overlaps := [], NextID := (0 : Int), Frame := (0 : Int) : World_ },
  (0 : Int), (9 : Int))
  else
  Rx.Bind (joint_ResetImpulses j1) fun (r831 : Joint) =>
  Rx.Bind
  (joint_Validate
  { ID := w0.NextID, Kind := r831.Kind, BodyA := r831.BodyA, BodyB := r831.BodyB, AnchorA := r831.AnchorA, AnchorB := r831.AnchorB, Axis := r831.Axis, ReferenceAngle := r831.ReferenceAngle, EnableLimit := r831.EnableLimit, Lower := r831.Lower, Upper := r831.Upper, EnableMotor := r831.EnableMotor, MotorSpeed := r831.MotorSpeed, MaxForce := r831.MaxForce, Softness := r831.Softness, BreakForce := r831.BreakForce, CollideConnected := r831.CollideConnected, Impulses := r831.Impulses : Joint })
  fun (r832 : Int) =>
  Let (r832 != (0 : Int)) fun (x833 : Bool) =>
  Rx.Bind
  (if (x833 == false) = true then
  world_bodiesExist w0
  { ID := w0.NextID, Kind := r831.Kind, BodyA := r831.BodyA, BodyB := r831.BodyB, AnchorA := r831.AnchorA, AnchorB := r831.AnchorB, Axis := r831.Axis, ReferenceAngle := r831.ReferenceAngle, EnableLimit := r831.EnableLimit, Lower := r831.Lower, Upper := r831.Upper, EnableMotor := r831.EnableMotor, MotorSpeed := r831.MotorSpeed, MaxForce := r831.MaxForce, Softness := r831.Softness, BreakForce := r831.BreakForce, CollideConnected := r831.CollideConnected, Impulses := r831.Impulses : Joint }
  else some default)
  fun (r834 : Bool) =>
  Let (!r834) fun (x835 : Bool) =>
  Let (bif x833 then true else x835) fun (x836 : Bool) =>
  if x836 = true then
  some
  ({ Settings := { TimeStep := (0 : Int), Gravity := { X := (0 : Int), Y := (0 : Int) : Vec }, Iterations := (0 : Int), SleepSteps := (0 : Int) : Settings }, Bodies := [], Joints := [], Contacts := [], Overlaps := [], NextID := (0 : Int), Frame := (0 : Int) : World_ },
  (0 : Int), (15 : Int))
  else
  Rx.Bind (world_Clone w0) fun (r837 : World_) =>
  Chk
  ((r837.Joints.length +
  [{ ID := w0.NextID, Kind := r831.Kind, BodyA := r831.BodyA, BodyB := r831.BodyB, AnchorA := r831.AnchorA, AnchorB := r831.AnchorB, Axis := r831.Axis, ReferenceAngle := r831.ReferenceAngle, EnableLimit := r831.EnableLimit, Lower := r831.Lower, Upper := r831.Upper, EnableMotor := r831.EnableMotor, MotorSpeed := r831.MotorSpeed, MaxForce := r831.MaxForce, Softness := r831.Softness, BreakForce := r831.BreakForce, CollideConnected := r831.CollideConnected, Impulses := r831.Impulses : Joint }].length) *
  (192 : Nat) ≤
  (140737488355328 : Nat))
  (Let
  (r837.Joints ++
  [{ ID := w0.NextID, Kind := r831.Kind, BodyA := r831.BodyA, BodyB := r831.BodyB, AnchorA := r831.AnchorA, AnchorB := r831.AnchorB, Axis := r831.Axis, ReferenceAngle := r831.ReferenceAngle, EnableLimit := r831.EnableLimit, Lower := r831.Lower, Upper := r831.Upper, EnableMotor := r831.EnableMotor, MotorSpeed := r831.MotorSpeed, MaxForce := r831.MaxForce, Softness := r831.Softness, BreakForce := r831.BreakForce, CollideConnected := r831.CollideConnected, Impulses := r831.Impulses : Joint }])
  fun (x838 : List Joint) => Let (IntKind.i64.wrap (r837.NextID + (1 : Int))) fun (x839 : Int) => none)

noncomputable def world_RemoveBody_1 (k0 : PairKey) (p1 : Int) : Option Bool :=
  Let (k0.BodyA == p1) fun (x840 : Bool) =>
  Let (k0.BodyB == p1) fun (x841 : Bool) => Let (bif x840 then true else x841) fun (x842 : Bool) => some x842

noncomputable def joint_Attached (j0 : Joint) (id1 : Int) : Option Bool :=
  Let (id1 != (0 : Int)) fun (x843 : Bool) =>
  Let (j0.BodyA == id1) fun (x844 : Bool) =>
  Let (j0.BodyB == id1) fun (x845 : Bool) =>
  Let (bif x844 then true else x845) fun (x846 : Bool) =>
  Let (bif x843 then x846 else false) fun (x847 : Bool) => some x847

noncomputable def world_other (a0 : Int) (b1 : Int) (id2 : Int) : Option Int :=
  Let (a0 == id2) fun (x848 : Bool) => if x848 = true then some b1 else some a0

noncomputable def world_RemoveBody_2 (j0 : Joint) (p1 : Int) : Option Bool :=
  Rx.Bind (joint_Attached j0 p1) fun (r849 : Bool) => some r849

noncomputable def slices_IndexFunc_128 (s0 : (List Joint)) (f1 : (Joint → Option Bool)) : Option Int :=
  Let (↑s0.length : Int) fun (x850 : Int) =>
  LOOP
  (fun (rec851 : Int → Option Int) (s852 : Int) =>
  Let (decide (s852 < x850)) fun (x853 : Bool) =>
  if x853 = true then
  Chk ((0 : Int) ≤ s852 ∧ s852 < (↑s0.length : Int))
  (Let (ix s0 s852) fun (x854 : Joint) =>
  Rx.Bind (f1 x854) fun (r855 : Bool) =>
  if r855 = true then some s852 else Let (IntKind.i64.wrap (s852 + (1 : Int))) fun (x856 : Int) => rec851 x856)
  else some (-1 : Int))
  fuel (0 : Int)

noncomputable def slices_IndexFunc_129 (s0 : (List Contact)) (f1 : (Contact → Option Bool)) : Option Int :=
  Let (↑s0.length : Int) fun (x857 : Int) =>
  LOOP
  (fun (rec858 : Int → Option Int) (s859 : Int) =>
  Let (decide (s859 < x857)) fun (x860 : Bool) =>
  if x860 = true then
  Chk ((0 : Int) ≤ s859 ∧ s859 < (↑s0.length : Int))
  (Let (ix s0 s859) fun (x861 : Contact) =>
  Rx.Bind (f1 x861) fun (r862 : Bool) =>
  if r862 = true then some s859 else Let (IntKind.i64.wrap (s859 + (1 : Int))) fun (x863 : Int) => rec858 x863)
  else some (-1 : Int))
  fuel (0 : Int)

noncomputable def world_RemoveBody (w0 : World_) (id1 : Int) : Option (World_ × Int) :=
  Rx.Bind (world_FindBody w0 id1) fun (r864 : Int) =>
  Let (decide (r864 < (0 : Int))) fun (x865 : Bool) =>
  if x865 = true then
  some
  ({ Settings := { TimeStep := (0 : Int), Gravity := { X := (0 : Int), Y := (0 : Int) : Vec }, Iterations := (0 : Int), SleepSteps := (0 : Int) : Settings }, Bodies := [], Joints := [], Contacts := [], Overlaps := [], NextID := (0 : Int), Frame := (0 : Int) : World_ },
  (8 : Int))
  else
  Rx.Bind (world_Clone w0) fun (r866 : World_) =>
  Let (↑r866.Joints.length : Int) fun (x867 : Int) =>
  LOOP
  (fun (rec868 : List Int × Int → Option (World_ × Int)) (s869 : List Int × Int) =>
  Let (decide (s869.snd < x867)) fun (x870 : Bool) =>
  if x870 = true then
  Join (fun (v871 : List Int) => Let (IntKind.i64.wrap (s869.snd + (1 : Int))) fun (x872 : Int) => rec868 (v871, x872))
  fun (j873 : List Int → Option (World_ × Int)) =>
  Chk ((0 : Int) ≤ s869.snd ∧ s869.snd < (↑r866.Joints.length : Int))
  (Chk ((0 : Int) ≤ s869.snd ∧ s869.snd < (↑r866.Joints.length : Int))
  (Let (ix r866.Joints s869.snd) fun (x874 : Joint) =>
  Rx.Bind (joint_Attached x874 id1) fun (r875 : Bool) =>
  if r875 = true then
  Rx.Bind (world_other x874.BodyA x874.BodyB id1) fun (r876 : Int) =>
  Chk ((List.length s869.fst + [r876].length) * (8 : Nat) ≤ (140737488355328 : Nat))
  (Let (s869.fst ++ [r876]) fun (x877 : List Int) => j873 x877)
  else j873 s869.fst))
  else
  Let (↑r866.Contacts.length : Int) fun (x878 : Int) =>
  LOOP
  (fun (rec879 : List Int × Int → Option (World_ × Int)) (s880 : List Int × Int) =>
  Let (decide (s880.snd < x878)) fun (x881 : Bool) =>
  if x881 = true then
  Join (fun (v882 : List Int) => Let (IntKind.i64.wrap (s880.snd + (1 : Int))) fun (x883 : Int) => rec879 (v882, x883))
  fun (j884 : List Int → Option (World_ × Int)) =>
  Chk ((0 : Int) ≤ s880.snd ∧ s880.snd < (↑r866.Contacts.length : Int))
  (Chk ((0 : Int) ≤ s880.snd ∧ s880.snd < (↑r866.Contacts.length : Int))
  (Let (ix r866.Contacts s880.snd) fun (x885 : Contact) =>
  Rx.Bind (world_RemoveBody_1 x885.Key id1) fun (r886 : Bool) =>
  if r886 = true then
  Rx.Bind (world_other x885.Key.BodyA x885.Key.BodyB id1) fun (r887 : Int) =>
  Chk ((List.length s880.fst + [r887].length) * (8 : Nat) ≤ (140737488355328 : Nat))
  (Let (s880.fst ++ [r887]) fun (x888 : List Int) => j884 x888)
  else j884 s880.fst))
  else
  Let (IntKind.i64.wrap (r864 + (1 : Int))) fun (x889 : Int) =>
  Let (↑r866.Bodies.length : Int) fun (x890 : Int) =>
  Chk ((0 : Int) ≤ r864 ∧ r864 ≤ x889 ∧ x889 ≤ x890 ∧ x890 ≤ (↑r866.Bodies.length : Int))
  (Let (r864 == x889) fun (x891 : Bool) =>
  if x891 = true then
  Rx.Bind (slices_IndexFunc_128 r866.Joints fun (a : Tup tb [Ix.tJoint]) => world_RemoveBody_2 a id1) fun (r892 : Int) =>
  Let (r892 == (-1 : Int)) fun (x893 : Bool) =>
  if x893 = true then none
  else
  Let (IntKind.i64.wrap (r892 + (1 : Int))) fun (x894 : Int) =>
  LOOP
  (fun (rec895 : Int × Int × List Joint → Option (World_ × Int)) (s896 : Int × Int × List Joint) =>
  Let (↑(List.length s896.snd.snd) : Int) fun (x897 : Int) =>
  Let (decide (s896.snd.fst < x897)) fun (x898 : Bool) =>
  if x898 = true then
  Join
  (fun (v899 : Int × List Joint) =>
  Let (IntKind.i64.wrap (s896.snd.fst + (1 : Int))) fun (x900 : Int) => rec895 (v899.fst, x900, v899.snd))
  fun (j901 : Int × List Joint → Option (World_ × Int)) =>
  Chk ((0 : Int) ≤ s896.snd.fst ∧ s896.snd.fst < (↑(List.length s896.snd.snd) : Int))
  (Chk ((0 : Int) ≤ s896.snd.fst ∧ s896.snd.fst < (↑(List.length s896.snd.snd) : Int))
  (Let (ix s896.snd.snd s896.snd.fst) fun (x902 : Joint) =>
  Rx.Bind (world_RemoveBody_2 x902 id1) fun (r903 : Bool) =>
  Let (!r903) fun (x904 : Bool) =>
  if x904 = true then
  Chk ((0 : Int) ≤ s896.fst ∧ s896.fst < (↑(List.length s896.snd.snd) : Int))
  (Chk ((0 : Int) ≤ s896.fst ∧ s896.fst < (↑(List.length s896.snd.snd) : Int))
  (Let (List.set s896.snd.snd (Int.toNat s896.fst) x902) fun (x905 : List Joint) =>
  Let (IntKind.i64.wrap (s896.fst + (1 : Int))) fun (x906 : Int) => j901 (x906, x905)))
  else j901 (s896.fst, s896.snd.snd)))
  else
  Chk
  ((0 : Int) ≤ (some s896.fst).getD (0 : Int) ∧
  (0 : Int) ≤ none.getD (0 : Int) ∧
  Int.toNat s896.fst ≤ List.length s896.snd.snd ∧ List.length s896.snd.snd ≤ List.length s896.snd.snd)
  (Chk
  (Int.toNat s896.fst + (List.length s896.snd.snd - Int.toNat s896.fst) ≤ List.length s896.snd.snd ∧
  (0 : Nat) < List.length s896.snd.snd - Int.toNat s896.fst)
  (Let
  (List.take (Int.toNat s896.fst) s896.snd.snd ++
  List.replicate (List.length s896.snd.snd - Int.toNat s896.fst)
  { ID := (0 : Int), Kind := (0 : Int), BodyA := (0 : Int), BodyB := (0 : Int), AnchorA := { X := (0 : Int), Y := (0 : Int) : Vec }, AnchorB := { X := (0 : Int), Y := (0 : Int) : Vec }, Axis := { X := (0 : Int), Y := (0 : Int) : Vec }, ReferenceAngle := (0 : Int), EnableLimit := false, Lower := (0 : Int), Upper := (0 : Int), EnableMotor := false, MotorSpeed := (0 : Int), MaxForce := (0 : Int), Softness := (0 : Int), BreakForce := (0 : Int), CollideConnected := false, Impulses := ((0 : Int), (0 : Int), (0 : Int), (0 : Int)) : Joint } ++
  List.drop (Int.toNat s896.fst + (List.length s896.snd.snd - Int.toNat s896.fst)) s896.snd.snd)
  fun (x907 : List Joint) =>
  Chk
  ((0 : Int) ≤ none.getD (0 : Int) ∧
  (0 : Int) ≤ (some s896.fst).getD (0 : Int) ∧ (0 : Nat) ≤ Int.toNat s896.fst ∧ Int.toNat s896.fst ≤ x907.length)
  (Chk (Int.toNat s896.fst - (0 : Nat) ≤ x907.length)
  (Let (List.take (Int.toNat s896.fst - (0 : Nat)) x907) fun (x908 : List Joint) => none)))))
  fuel (r892, x894, r866.Joints)
  else
  Let (↑r866.Bodies.length : Int) fun (x909 : Int) =>
  Chk
  ((0 : Int) ≤ none.getD (0 : Int) ∧
  (0 : Int) ≤ (some r864).getD (0 : Int) ∧ (0 : Nat) ≤ r864.toNat ∧ r864.toNat ≤ r866.Bodies.length)
  (Chk
  ((0 : Int) ≤ (some x889).getD (0 : Int) ∧
  (0 : Int) ≤ none.getD (0 : Int) ∧ x889.toNat ≤ r866.Bodies.length ∧ r866.Bodies.length ≤ r866.Bodies.length)
  (Chk (x889.toNat + (r866.Bodies.length - x889.toNat) ≤ r866.Bodies.length)
  (Let (List.take (r866.Bodies.length - x889.toNat) (List.drop x889.toNat r866.Bodies)) fun (x910 : List Body) =>
  Chk
  ((0 : Nat) + (r864.toNat - (0 : Nat) + x910.length) ≤ r866.Bodies.length ∧
  r864.toNat - (0 : Nat) + x910.length ≤ r866.Bodies.length - (0 : Nat) ∧ (0 : Nat) < r866.Bodies.length - (0 : Nat))
  (Let
  (List.take ((0 : Nat) + (r864.toNat - (0 : Nat))) r866.Bodies ++ x910 ++
  List.drop ((0 : Nat) + (r864.toNat - (0 : Nat)) + x910.length) r866.Bodies)
  fun (x911 : List Body) =>
  Chk
  ((0 : Int) ≤ (some (↑(r864.toNat - (0 : Nat) + x910.length) : Int)).getD (0 : Int) ∧
  (0 : Int) ≤ (some x909).getD (0 : Int) ∧
  (↑(r864.toNat - (0 : Nat) + x910.length) : Int).toNat ≤ x909.toNat ∧
  x909.toNat ≤ r866.Bodies.length - (0 : Nat) ∧ r864.toNat - (0 : Nat) + x910.length ≤ r866.Bodies.length - (0 : Nat))
  (Chk
  ((0 : Nat) + (↑(r864.toNat - (0 : Nat) + x910.length) : Int).toNat +
  (x909.toNat - (↑(r864.toNat - (0 : Nat) + x910.length) : Int).toNat) ≤
  x911.length ∧
  (0 : Nat) < r866.Bodies.length - (0 : Nat) - (↑(r864.toNat - (0 : Nat) + x910.length) : Int).toNat)
  (Let
  (List.take ((0 : Nat) + (↑(r864.toNat - (0 : Nat) + x910.length) : Int).toNat) x911 ++
  List.replicate (x909.toNat - (↑(r864.toNat - (0 : Nat) + x910.length) : Int).toNat)
  { ID := (0 : Int), Kind := (0 : Int), Transform := { Position := { X := (0 : Int), Y := (0 : Int) : Vec }, Angle := (0 : Int) : Transform }, Velocity := { X := (0 : Int), Y := (0 : Int) : Vec }, AngularVelocity := (0 : Int), Force := { X := (0 : Int), Y := (0 : Int) : Vec }, Torque := (0 : Int), LinearDamping := (0 : Int), AngularDamping := (0 : Int), GravityScale := (0 : Int), Bullet := false, FixedRotation := false, NoSleep := false, Asleep := false, IdleSteps := (0 : Int), Fixtures := [] : Body } ++
  List.drop
  ((0 : Nat) + (↑(r864.toNat - (0 : Nat) + x910.length) : Int).toNat +
  (x909.toNat - (↑(r864.toNat - (0 : Nat) + x910.length) : Int).toNat))
  x911)
  fun (x912 : List Body) =>
  Chk (r864.toNat - (0 : Nat) + x910.length ≤ x912.length)
  (Let (List.take (r864.toNat - (0 : Nat) + x910.length) x912) fun (x913 : List Body) =>
  Rx.Bind (slices_IndexFunc_128 r866.Joints fun (a : Tup tb [Ix.tJoint]) => world_RemoveBody_2 a id1) fun (r914 : Int) =>
  Let (r914 == (-1 : Int)) fun (x915 : Bool) =>
  if x915 = true then none
  else
  Let (IntKind.i64.wrap (r914 + (1 : Int))) fun (x916 : Int) =>
  LOOP
  (fun (rec917 : Int × Int × List Joint → Option (World_ × Int)) (s918 : Int × Int × List Joint) =>
  Let (↑(List.length s918.snd.snd) : Int) fun (x919 : Int) =>
  Let (decide (s918.snd.fst < x919)) fun (x920 : Bool) =>
  if x920 = true then
  Join
  (fun (v921 : Int × List Joint) =>
  Let (IntKind.i64.wrap (s918.snd.fst + (1 : Int))) fun (x922 : Int) => rec917 (v921.fst, x922, v921.snd))
  fun (j923 : Int × List Joint → Option (World_ × Int)) =>
  Chk ((0 : Int) ≤ s918.snd.fst ∧ s918.snd.fst < (↑(List.length s918.snd.snd) : Int))
  (Chk ((0 : Int) ≤ s918.snd.fst ∧ s918.snd.fst < (↑(List.length s918.snd.snd) : Int))
  (Let (ix s918.snd.snd s918.snd.fst) fun (x924 : Joint) =>
  Rx.Bind (world_RemoveBody_2 x924 id1) fun (r925 : Bool) =>
  Let (!r925) fun (x926 : Bool) =>
  if x926 = true then
  Chk ((0 : Int) ≤ s918.fst ∧ s918.fst < (↑(List.length s918.snd.snd) : Int))
  (Chk ((0 : Int) ≤ s918.fst ∧ s918.fst < (↑(List.length s918.snd.snd) : Int))
  (Let (List.set s918.snd.snd (Int.toNat s918.fst) x924) fun (x927 : List Joint) =>
  Let (IntKind.i64.wrap (s918.fst + (1 : Int))) fun (x928 : Int) => j923 (x928, x927)))
  else j923 (s918.fst, s918.snd.snd)))
  else
  Chk
  ((0 : Int) ≤ (some s918.fst).getD (0 : Int) ∧
  (0 : Int) ≤ none.getD (0 : Int) ∧
  Int.toNat s918.fst ≤ List.length s918.snd.snd ∧ List.length s918.snd.snd ≤ List.length s918.snd.snd)
  (Chk
  (Int.toNat s918.fst + (List.length s918.snd.snd - Int.toNat s918.fst) ≤ List.length s918.snd.snd ∧
  (0 : Nat) < List.length s918.snd.snd - Int.toNat s918.fst)
  (Let
  (List.take (Int.toNat s918.fst) s918.snd.snd ++
  List.replicate (List.length s918.snd.snd - Int.toNat s918.fst)
  { ID := (0 : Int), Kind := (0 : Int), BodyA := (0 : Int), BodyB := (0 : Int), AnchorA := { X := (0 : Int), Y := (0 : Int) : Vec }, AnchorB := { X := (0 : Int), Y := (0 : Int) : Vec }, Axis := { X := (0 : Int), Y := (0 : Int) : Vec }, ReferenceAngle := (0 : Int), EnableLimit := false, Lower := (0 : Int), Upper := (0 : Int), EnableMotor := false, MotorSpeed := (0 : Int), MaxForce := (0 : Int), Softness := (0 : Int), BreakForce := (0 : Int), CollideConnected := false, Impulses := ((0 : Int), (0 : Int), (0 : Int), (0 : Int)) : Joint } ++
  List.drop (Int.toNat s918.fst + (List.length s918.snd.snd - Int.toNat s918.fst)) s918.snd.snd)
  fun (x929 : List Joint) =>
  Chk
  ((0 : Int) ≤ none.getD (0 : Int) ∧
  (0 : Int) ≤ (some s918.fst).getD (0 : Int) ∧ (0 : Nat) ≤ Int.toNat s918.fst ∧ Int.toNat s918.fst ≤ x929.length)
  (Chk (Int.toNat s918.fst - (0 : Nat) ≤ x929.length)
  (Let (List.take (Int.toNat s918.fst - (0 : Nat)) x929) fun (x930 : List Joint) => none)))))
  fuel (r914, x916, r866.Joints))))))))))
  fuel (s869.fst, (0 : Int)))
  fuel ([], (0 : Int))

noncomputable def world_FindJoint_1 (j0 : Joint) (p1 : Int) : Option Bool :=
  Let (j0.ID == p1) fun (x931 : Bool) => some x931

noncomputable def world_FindJoint (w0 : World_) (id1 : Int) : Option Int :=
  Rx.Bind (slices_IndexFunc_128 w0.Joints fun (a : Tup tb [Ix.tJoint]) => world_FindJoint_1 a id1) fun (r932 : Int) =>
  some r932

noncomputable def world_RemoveJoint (w0 : World_) (id1 : Int) : Option (World_ × Int) :=
  Rx.Bind (world_FindJoint w0 id1) fun (r933 : Int) =>
  Let (decide (r933 < (0 : Int))) fun (x934 : Bool) =>
  if x934 = true then
  some
  ({ Settings := { TimeStep := (0 : Int), Gravity := { X := (0 : Int), Y := (0 : Int) : Vec }, Iterations := (0 : Int), SleepSteps := (0 : Int) : Settings }, Bodies := [], Joints := [], Contacts := [], Overlaps := [], NextID := (0 : Int), Frame := (0 : Int) : World_ },
  (8 : Int))
  else
  Rx.Bind (world_Clone w0) fun (r935 : World_) =>
  Chk ((0 : Int) ≤ r933 ∧ r933 < (↑r935.Joints.length : Int))
  (Chk ((0 : Int) ≤ r933 ∧ r933 < (↑r935.Joints.length : Int))
  (Let (ix r935.Joints r933) fun (x936 : Joint) =>
  Let (IntKind.i64.wrap (r933 + (1 : Int))) fun (x937 : Int) =>
  Let (↑r935.Joints.length : Int) fun (x938 : Int) =>
  Chk ((0 : Int) ≤ r933 ∧ r933 ≤ x937 ∧ x937 ≤ x938 ∧ x938 ≤ (↑r935.Joints.length : Int))
  (Let (r933 == x937) fun (x939 : Bool) =>
  if x939 = true then Rx.Bind (world_wakeAll r935 [x936.BodyA, x936.BodyB]) fun (r940 : World_) => some (r940, (0 : Int))
  else
  Let (↑r935.Joints.length : Int) fun (x941 : Int) =>
  Chk
  ((0 : Int) ≤ none.getD (0 : Int) ∧
  (0 : Int) ≤ (some r933).getD (0 : Int) ∧ (0 : Nat) ≤ r933.toNat ∧ r933.toNat ≤ r935.Joints.length)
  (Chk
  ((0 : Int) ≤ (some x937).getD (0 : Int) ∧
  (0 : Int) ≤ none.getD (0 : Int) ∧ x937.toNat ≤ r935.Joints.length ∧ r935.Joints.length ≤ r935.Joints.length)
  (Chk (x937.toNat + (r935.Joints.length - x937.toNat) ≤ r935.Joints.length)
  (Let (List.take (r935.Joints.length - x937.toNat) (List.drop x937.toNat r935.Joints)) fun (x942 : List Joint) =>
  Chk
  ((0 : Nat) + (r933.toNat - (0 : Nat) + x942.length) ≤ r935.Joints.length ∧
  r933.toNat - (0 : Nat) + x942.length ≤ r935.Joints.length - (0 : Nat) ∧ (0 : Nat) < r935.Joints.length - (0 : Nat))
  (Let
  (List.take ((0 : Nat) + (r933.toNat - (0 : Nat))) r935.Joints ++ x942 ++
  List.drop ((0 : Nat) + (r933.toNat - (0 : Nat)) + x942.length) r935.Joints)
  fun (x943 : List Joint) =>
  Chk
  ((0 : Int) ≤ (some (↑(r933.toNat - (0 : Nat) + x942.length) : Int)).getD (0 : Int) ∧
  (0 : Int) ≤ (some x941).getD (0 : Int) ∧
  (↑(r933.toNat - (0 : Nat) + x942.length) : Int).toNat ≤ x941.toNat ∧
  x941.toNat ≤ r935.Joints.length - (0 : Nat) ∧ r933.toNat - (0 : Nat) + x942.length ≤ r935.Joints.length - (0 : Nat))
  (Chk
  ((0 : Nat) + (↑(r933.toNat - (0 : Nat) + x942.length) : Int).toNat +
  (x941.toNat - (↑(r933.toNat - (0 : Nat) + x942.length) : Int).toNat) ≤
  x943.length ∧
  (0 : Nat) < r935.Joints.length - (0 : Nat) - (↑(r933.toNat - (0 : Nat) + x942.length) : Int).toNat)
  (Let
  (List.take ((0 : Nat) + (↑(r933.toNat - (0 : Nat) + x942.length) : Int).toNat) x943 ++
  List.replicate (x941.toNat - (↑(r933.toNat - (0 : Nat) + x942.length) : Int).toNat)
  { ID := (0 : Int), Kind := (0 : Int), BodyA := (0 : Int), BodyB := (0 : Int), AnchorA := { X := (0 : Int), Y := (0 : Int) : Vec }, AnchorB := { X := (0 : Int), Y := (0 : Int) : Vec }, Axis := { X := (0 : Int), Y := (0 : Int) : Vec }, ReferenceAngle := (0 : Int), EnableLimit := false, Lower := (0 : Int), Upper := (0 : Int), EnableMotor := false, MotorSpeed := (0 : Int), MaxForce := (0 : Int), Softness := (0 : Int), BreakForce := (0 : Int), CollideConnected := false, Impulses := ((0 : Int), (0 : Int), (0 : Int), (0 : Int)) : Joint } ++
  List.drop
  ((0 : Nat) + (↑(r933.toNat - (0 : Nat) + x942.length) : Int).toNat +
  (x941.toNat - (↑(r933.toNat - (0 : Nat) + x942.length) : Int).toNat))
  x943)
  fun (x944 : List Joint) =>
  Chk (r933.toNat - (0 : Nat) + x942.length ≤ x944.length)
  (Let (List.take (r933.toNat - (0 : Nat) + x942.length) x944) fun (x945 : List Joint) =>
  Rx.Bind
  (world_wakeAll
  { Settings := r935.Settings, Bodies := r935.Bodies, Joints := x945, Contacts := r935.Contacts, Overlaps := r935.Overlaps, NextID := r935.NextID, Frame := r935.Frame : World_ }
  [x936.BodyA, x936.BodyB])
  fun (r946 : World_) => some (r946, (0 : Int))))))))))))

noncomputable def input_applyToJoint (w0 : World_) (x1 : Input) : Option (World_ × Int) :=
  Rx.Bind (world_FindJoint w0 x1.ID) fun (r947 : Int) =>
  Let (decide (r947 < (0 : Int))) fun (x948 : Bool) =>
  if x948 = true then
  some
  ({ Settings := { TimeStep := (0 : Int), Gravity := { X := (0 : Int), Y := (0 : Int) : Vec }, Iterations := (0 : Int), SleepSteps := (0 : Int) : Settings }, Bodies := [], Joints := [], Contacts := [], Overlaps := [], NextID := (0 : Int), Frame := (0 : Int) : World_ },
  (8 : Int))
  else
  Chk ((0 : Int) ≤ r947 ∧ r947 < (↑w0.Joints.length : Int))
  (Let (ix w0.Joints r947) fun (x949 : Joint) =>
  Join
  (fun (v950 : World_ × Joint) =>
  Rx.Bind (joint_Validate v950.snd) fun (r951 : Int) =>
  Let (r951 != (0 : Int)) fun (x952 : Bool) =>
  if x952 = true then
  some
  ({ Settings := { TimeStep := (0 : Int), Gravity := { X := (0 : Int), Y := (0 : Int) : Vec }, Iterations := (0 : Int), SleepSteps := (0 : Int) : Settings }, Bodies := [], Joints := [], Contacts := [], Overlaps := [], NextID := (0 : Int), Frame := (0 : Int) : World_ },
  (6 : Int))
  else
  Rx.Bind (world_Clone w0) fun (r953 : World_) =>
  Chk ((0 : Int) ≤ r947 ∧ r947 < (↑r953.Joints.length : Int))
  (Chk ((0 : Int) ≤ r947 ∧ r947 < (↑r953.Joints.length : Int))
  (Let (r953.Joints.set r947.toNat v950.snd) fun (x954 : List Joint) => none)))
  fun (j955 : World_ × Joint → Option (World_ × Int)) =>
  Let (x1.Kind == (7 : Int)) fun (x956 : Bool) =>
  if x956 = true then
  Let (x949.Kind != (5 : Int)) fun (x957 : Bool) =>
  if x957 = true then
  some
  ({ Settings := { TimeStep := (0 : Int), Gravity := { X := (0 : Int), Y := (0 : Int) : Vec }, Iterations := (0 : Int), SleepSteps := (0 : Int) : Settings }, Bodies := [], Joints := [], Contacts := [], Overlaps := [], NextID := (0 : Int), Frame := (0 : Int) : World_ },
  (10 : Int))
  else
  j955
  ({ Settings := { TimeStep := (0 : Int), Gravity := { X := (0 : Int), Y := (0 : Int) : Vec }, Iterations := (0 : Int), SleepSteps := (0 : Int) : Settings }, Bodies := [], Joints := [], Contacts := [], Overlaps := [], NextID := (0 : Int), Frame := (0 : Int) : World_ },
  { ID := x949.ID, Kind := x949.Kind, BodyA := x949.BodyA, BodyB := x949.BodyB, AnchorA := x1.Vec, AnchorB := x949.AnchorB, Axis := x949.Axis, ReferenceAngle := x949.ReferenceAngle, EnableLimit := x949.EnableLimit, Lower := x949.Lower, Upper := x949.Upper, EnableMotor := x949.EnableMotor, MotorSpeed := x949.MotorSpeed, MaxForce := x949.MaxForce, Softness := x949.Softness, BreakForce := x949.BreakForce, CollideConnected := x949.CollideConnected, Impulses := x949.Impulses : Joint })
  else
  Let (!x949.EnableMotor) fun (x958 : Bool) =>
  if x958 = true then
  some
  ({ Settings := { TimeStep := (0 : Int), Gravity := { X := (0 : Int), Y := (0 : Int) : Vec }, Iterations := (0 : Int), SleepSteps := (0 : Int) : Settings }, Bodies := [], Joints := [], Contacts := [], Overlaps := [], NextID := (0 : Int), Frame := (0 : Int) : World_ },
  (10 : Int))
  else
  j955
  ({ Settings := { TimeStep := (0 : Int), Gravity := { X := (0 : Int), Y := (0 : Int) : Vec }, Iterations := (0 : Int), SleepSteps := (0 : Int) : Settings }, Bodies := [], Joints := [], Contacts := [], Overlaps := [], NextID := (0 : Int), Frame := (0 : Int) : World_ },
  { ID := x949.ID, Kind := x949.Kind, BodyA := x949.BodyA, BodyB := x949.BodyB, AnchorA := x949.AnchorA, AnchorB := x949.AnchorB, Axis := x949.Axis, ReferenceAngle := x949.ReferenceAngle, EnableLimit := x949.EnableLimit, Lower := x949.Lower, Upper := x949.Upper, EnableMotor := x949.EnableMotor, MotorSpeed := x1.Value, MaxForce := x949.MaxForce, Softness := x949.Softness, BreakForce := x949.BreakForce, CollideConnected := x949.CollideConnected, Impulses := x949.Impulses : Joint }))

noncomputable def input_checkBody (b0 : Body) (x1 : Input) : Option Int :=
  Join (fun (v959 : PUnit) => some (0 : Int)) fun (j960 : PUnit → Option Int) =>
  Let (x1.Kind == (4 : Int)) fun (x961 : Bool) =>
  if x961 = true then
  Rx.Bind (transform_Valid { Position := x1.Vec, Angle := x1.Value : Transform }) fun (r962 : Bool) =>
  Let (!r962) fun (x963 : Bool) => if x963 = true then some (6 : Int) else j960 ()
  else
  Let (x1.Kind == (5 : Int)) fun (x964 : Bool) =>
  if x964 = true then Let (b0.Kind == (1 : Int)) fun (x965 : Bool) => if x965 = true then some (10 : Int) else j960 ()
  else Let (b0.Kind != (3 : Int)) fun (x966 : Bool) => if x966 = true then some (10 : Int) else j960 ()

noncomputable def fixed_Mul (a0 : Int) (b1 : Int) : Option Int :=
  Rx.Bind (fixed_Saturate a0) fun (r967 : Int) =>
  Rx.Bind (fixed_Saturate b1) fun (r968 : Int) =>
  Let (IntKind.i64.wrap (r967 * r968)) fun (x969 : Int) =>
  Rx.Bind (fixed_RoundDiv x969 (65536 : Int)) fun (r970 : Int) =>
  Rx.Bind (fixed_Saturate r970) fun (r971 : Int) => some r971

noncomputable def massdata_ofCircle (s0 : Shape) (density1 : Int) : Option MassData :=
  Rx.Bind (fixed_Mul s0.Radius s0.Radius) fun (r972 : Int) =>
  Rx.Bind (fixed_Mul (205888 : Int) r972) fun (r973 : Int) =>
  Rx.Bind (fixed_Mul r973 density1) fun (r974 : Int) =>
  Chk ((0 : Int) ≤ (0 : Int) ∧ (0 : Int) < (↑s0.Vertices.length : Int))
  (Let (ix s0.Vertices (0 : Int)) fun (x975 : Vec) =>
  Rx.Bind (fixed_RoundDiv r972 (2 : Int)) fun (r976 : Int) =>
  Rx.Bind (fixed_Mul r974 r976) fun (r977 : Int) => some { Mass := r974, Center := x975, Inertia := r977 : MassData })

noncomputable def fixed_Add (a0 : Int) (b1 : Int) : Option Int :=
  Rx.Bind (fixed_Saturate a0) fun (r978 : Int) =>
  Rx.Bind (fixed_Saturate b1) fun (r979 : Int) =>
  Let (IntKind.i64.wrap (r978 + r979)) fun (x980 : Int) => Rx.Bind (fixed_Saturate x980) fun (r981 : Int) => some r981

noncomputable def fixed_Lerp (a0 : Int) (b1 : Int) (t2 : Int) : Option Int :=
  Rx.Bind (fixed_Sub b1 a0) fun (r982 : Int) =>
  Rx.Bind (fixed_Mul r982 t2) fun (r983 : Int) => Rx.Bind (fixed_Add a0 r983) fun (r984 : Int) => some r984

noncomputable def vec2_Lerp (a0 : Vec) (b1 : Vec) (t2 : Int) : Option Vec :=
  Rx.Bind (fixed_Lerp a0.X b1.X t2) fun (r985 : Int) =>
  Rx.Bind (fixed_Lerp a0.Y b1.Y t2) fun (r986 : Int) => some { X := r985, Y := r986 : Vec }

noncomputable def massdata_ofCapsule (s0 : Shape) (density1 : Int) : Option MassData :=
  Rx.Bind (fixed_Mul s0.Radius s0.Radius) fun (r987 : Int) =>
  Chk ((0 : Int) ≤ (1 : Int) ∧ (1 : Int) < (↑s0.Vertices.length : Int))
  (Let (ix s0.Vertices (1 : Int)) fun (x988 : Vec) =>
  Chk ((0 : Int) ≤ (0 : Int) ∧ (0 : Int) < (↑s0.Vertices.length : Int))
  (Let (ix s0.Vertices (0 : Int)) fun (x989 : Vec) =>
  Rx.Bind (vec2_Sub x988 x989) fun (r990 : Vec) =>
  Rx.Bind (vec2_Length r990) fun (r991 : Int) =>
  Rx.Bind (fixed_Mul (205888 : Int) r987) fun (r992 : Int) =>
  Rx.Bind (fixed_Add s0.Radius s0.Radius) fun (r993 : Int) =>
  Rx.Bind (fixed_Mul r993 r991) fun (r994 : Int) =>
  Rx.Bind (fixed_Add r992 r994) fun (r995 : Int) =>
  Rx.Bind (fixed_Mul r995 density1) fun (r996 : Int) =>
  Rx.Bind (fixed_RoundDiv r987 (2 : Int)) fun (r997 : Int) =>
  Rx.Bind (fixed_Mul r991 r991) fun (r998 : Int) =>
  Rx.Bind (fixed_RoundDiv r998 (12 : Int)) fun (r999 : Int) =>
  Rx.Bind (fixed_Add r997 r999) fun (r1000 : Int) =>
  Chk ((0 : Int) ≤ (0 : Int) ∧ (0 : Int) < (↑s0.Vertices.length : Int))
  (Let (ix s0.Vertices (0 : Int)) fun (x1001 : Vec) =>
  Chk ((0 : Int) ≤ (1 : Int) ∧ (1 : Int) < (↑s0.Vertices.length : Int))
  (Let (ix s0.Vertices (1 : Int)) fun (x1002 : Vec) =>
  Rx.Bind (vec2_Lerp x1001 x1002 (32768 : Int)) fun (r1003 : Vec) =>
  Rx.Bind (fixed_Mul r996 r1000) fun (r1004 : Int) =>
  some { Mass := r996, Center := r1003, Inertia := r1004 : MassData }))))

noncomputable def polygon_Centroid (vertices0 : (List Vec)) : Option Vec :=
  Rx.Bind (polygon_IsConvex vertices0) fun (r1005 : Bool) =>
  Let (!r1005) fun (x1006 : Bool) =>
  if x1006 = true then some { X := (0 : Int), Y := (0 : Int) : Vec }
  else
  Rx.Bind (polygon_fan vertices0) fun (r1007 : List polygon_triangle × Int) =>
  Let (r1007.snd == (0 : Int)) fun (x1008 : Bool) =>
  if x1008 = true then
  Chk ((0 : Int) ≤ (0 : Int) ∧ (0 : Int) < (↑vertices0.length : Int))
  (Let (ix vertices0 (0 : Int)) fun (x1009 : Vec) => some x1009)
  else
  Let (↑(List.length r1007.fst) : Int) fun (x1010 : Int) =>
  LOOP
  (fun (rec1011 : Int × Int × Int → Option Vec) (s1012 : Int × Int × Int) =>
  Let (decide (s1012.snd.snd < x1010)) fun (x1013 : Bool) =>
  if x1013 = true then
  Chk ((0 : Int) ≤ s1012.snd.snd ∧ s1012.snd.snd < (↑(List.length r1007.fst) : Int))
  (Let (ix r1007.fst s1012.snd.snd) fun (x1014 : polygon_triangle) =>
  Let (IntKind.i64.wrap (x1014.e.X + x1014.f.X)) fun (x1015 : Int) =>
  Let (IntKind.i64.wrap (x1015 * x1014.cross)) fun (x1016 : Int) =>
  Let (IntKind.i64.wrap (s1012.fst + x1016)) fun (x1017 : Int) =>
  Let (IntKind.i64.wrap (x1014.e.Y + x1014.f.Y)) fun (x1018 : Int) =>
  Let (IntKind.i64.wrap (x1018 * x1014.cross)) fun (x1019 : Int) =>
  Let (IntKind.i64.wrap (s1012.snd.fst + x1019)) fun (x1020 : Int) =>
  Let (IntKind.i64.wrap (s1012.snd.snd + (1 : Int))) fun (x1021 : Int) => rec1011 (x1017, x1020, x1021))
  else
  Chk ((0 : Int) ≤ (0 : Int) ∧ (0 : Int) < (↑vertices0.length : Int))
  (Let (ix vertices0 (0 : Int)) fun (x1022 : Vec) =>
  Let (IntKind.i64.wrap ((3 : Int) * r1007.snd)) fun (x1023 : Int) =>
  Rx.Bind (fixed_RoundDiv s1012.fst x1023) fun (r1024 : Int) =>
  Let (IntKind.i64.wrap (x1022.X + r1024)) fun (x1025 : Int) =>
  Chk ((0 : Int) ≤ (0 : Int) ∧ (0 : Int) < (↑vertices0.length : Int))
  (Let (ix vertices0 (0 : Int)) fun (x1026 : Vec) =>
  Let (IntKind.i64.wrap ((3 : Int) * r1007.snd)) fun (x1027 : Int) =>
  Rx.Bind (fixed_RoundDiv s1012.snd.fst x1027) fun (r1028 : Int) =>
  Let (IntKind.i64.wrap (x1026.Y + r1028)) fun (x1029 : Int) => some { X := x1025, Y := x1029 : Vec })))
  fuel ((0 : Int), (0 : Int), (0 : Int))

noncomputable def vec2_product (n0 : Int) : Option Int :=
  Rx.Bind (fixed_RoundDiv n0 (65536 : Int)) fun (r1030 : Int) =>
  Rx.Bind (fixed_Saturate r1030) fun (r1031 : Int) => some r1031

noncomputable def vec2_Cross (a0 : Vec) (b1 : Vec) : Option Int :=
  Rx.Bind (vec2_saturate a0) fun (r1032 : Vec) =>
  Rx.Bind (vec2_saturate b1) fun (r1033 : Vec) =>
  Let (IntKind.i64.wrap (r1032.X * r1033.Y)) fun (x1034 : Int) =>
  Let (IntKind.i64.wrap (r1032.Y * r1033.X)) fun (x1035 : Int) =>
  Let (IntKind.i64.wrap (x1034 - x1035)) fun (x1036 : Int) => Rx.Bind (vec2_product x1036) fun (r1037 : Int) => some r1037

noncomputable def vec2_Dot (a0 : Vec) (b1 : Vec) : Option Int :=
  Rx.Bind (vec2_saturate a0) fun (r1038 : Vec) =>
  Rx.Bind (vec2_saturate b1) fun (r1039 : Vec) =>
  Let (IntKind.i64.wrap (r1038.X * r1039.X)) fun (x1040 : Int) =>
  Let (IntKind.i64.wrap (r1038.Y * r1039.Y)) fun (x1041 : Int) =>
  Let (IntKind.i64.wrap (x1040 + x1041)) fun (x1042 : Int) => Rx.Bind (vec2_product x1042) fun (r1043 : Int) => some r1043

noncomputable def massdata_ofPolygon (s0 : Shape) (density1 : Int) : Option MassData :=
  Rx.Bind (polygon_Area s0.Vertices) fun (r1044 : Int) =>
  Rx.Bind (fixed_Mul r1044 density1) fun (r1045 : Int) =>
  Rx.Bind (polygon_Centroid s0.Vertices) fun (r1046 : Vec) =>
  Let (↑s0.Vertices.length : Int) fun (x1047 : Int) =>
  Let (IntKind.i64.wrap (x1047 - (1 : Int))) fun (x1048 : Int) =>
  Chk ((0 : Int) ≤ x1048 ∧ x1048 < (↑s0.Vertices.length : Int))
  (Let (ix s0.Vertices x1048) fun (x1049 : Vec) =>
  Rx.Bind (vec2_Sub x1049 r1046) fun (r1050 : Vec) =>
  Let (↑s0.Vertices.length : Int) fun (x1051 : Int) =>
  LOOP
  (fun (rec1052 : Int × Int × Int × Vec → Option MassData) (s1053 : Int × Int × Int × Vec) =>
  Let (decide (s1053.snd.snd.fst < x1051)) fun (x1054 : Bool) =>
  if x1054 = true then
  Chk ((0 : Int) ≤ s1053.snd.snd.fst ∧ s1053.snd.snd.fst < (↑s0.Vertices.length : Int))
  (Let (ix s0.Vertices s1053.snd.snd.fst) fun (x1055 : Vec) =>
  Rx.Bind (vec2_Sub x1055 r1046) fun (r1056 : Vec) =>
  Rx.Bind (vec2_Cross s1053.snd.snd.snd r1056) fun (r1057 : Int) =>
  Rx.Bind (vec2_Dot s1053.snd.snd.snd s1053.snd.snd.snd) fun (r1058 : Int) =>
  Rx.Bind (vec2_Dot s1053.snd.snd.snd r1056) fun (r1059 : Int) =>
  Let (IntKind.i64.wrap (r1058 + r1059)) fun (x1060 : Int) =>
  Rx.Bind (vec2_Dot r1056 r1056) fun (r1061 : Int) =>
  Let (IntKind.i64.wrap (x1060 + r1061)) fun (x1062 : Int) =>
  Let (IntKind.i64.wrap (r1057 * x1062)) fun (x1063 : Int) =>
  Let (IntKind.i64.wrap (s1053.fst + x1063)) fun (x1064 : Int) =>
  Let (IntKind.i64.wrap (s1053.snd.fst + r1057)) fun (x1065 : Int) =>
  Let (IntKind.i64.wrap (s1053.snd.snd.fst + (1 : Int))) fun (x1066 : Int) => rec1052 (x1064, x1065, x1066, r1056))
  else
  Let (decide (s1053.snd.fst < (1 : Int))) fun (x1067 : Bool) =>
  if x1067 = true then some { Mass := r1045, Center := r1046, Inertia := (0 : Int) : MassData }
  else
  Rx.Bind (fixed_RoundDiv s1053.fst s1053.snd.fst) fun (r1068 : Int) =>
  Rx.Bind (fixed_RoundDiv r1068 (6 : Int)) fun (r1069 : Int) =>
  Rx.Bind (fixed_Mul r1045 r1069) fun (r1070 : Int) =>
  some { Mass := r1045, Center := r1046, Inertia := r1070 : MassData })
  fuel ((0 : Int), (0 : Int), (0 : Int), r1050))

noncomputable def massdata_OfShape (s0 : Shape) (density1 : Int) : Option MassData :=
  Rx.Bind (shape_Validate s0) fun (r1071 : Int) =>
  Let (r1071 != (0 : Int)) fun (x1072 : Bool) =>
  Let (decide (density1 < (0 : Int))) fun (x1073 : Bool) =>
  Let (bif x1072 then true else x1073) fun (x1074 : Bool) =>
  Let (decide (density1 > (262144 : Int))) fun (x1075 : Bool) =>
  Let (bif x1074 then true else x1075) fun (x1076 : Bool) =>
  if x1076 = true then
  some { Mass := (0 : Int), Center := { X := (0 : Int), Y := (0 : Int) : Vec }, Inertia := (0 : Int) : MassData }
  else
  Let (s0.Kind == (1 : Int)) fun (x1077 : Bool) =>
  if x1077 = true then Rx.Bind (massdata_ofCircle s0 density1) fun (r1078 : MassData) => some r1078
  else
  Let (s0.Kind == (2 : Int)) fun (x1079 : Bool) =>
  if x1079 = true then Rx.Bind (massdata_ofCapsule s0 density1) fun (r1080 : MassData) => some r1080
  else Rx.Bind (massdata_ofPolygon s0 density1) fun (r1081 : MassData) => some r1081

noncomputable def slices_IndexFunc_271 (s0 : (List MassData)) (f1 : (MassData → Option Bool)) : Option Int :=
  Let (↑s0.length : Int) fun (x1082 : Int) =>
  LOOP
  (fun (rec1083 : Int → Option Int) (s1084 : Int) =>
  Let (decide (s1084 < x1082)) fun (x1085 : Bool) =>
  if x1085 = true then
  Chk ((0 : Int) ≤ s1084 ∧ s1084 < (↑s0.length : Int))
  (Let (ix s0 s1084) fun (x1086 : MassData) =>
  Rx.Bind (f1 x1086) fun (r1087 : Bool) =>
  if r1087 = true then some s1084 else Let (IntKind.i64.wrap (s1084 + (1 : Int))) fun (x1088 : Int) => rec1083 x1088)
  else some (-1 : Int))
  fuel (0 : Int)

noncomputable def slices_ContainsFunc_265 (s0 : (List MassData)) (f1 : (MassData → Option Bool)) : Option Bool :=
  Rx.Bind (slices_IndexFunc_271 s0 f1) fun (r1089 : Int) =>
  Let (decide (r1089 ≥ (0 : Int))) fun (x1090 : Bool) => some x1090

noncomputable def massdata_Combine_1 (p0 : MassData) : Option Bool :=
  Let (decide (p0.Mass < (0 : Int))) fun (x1091 : Bool) => some x1091

noncomputable def massdata_Combine (parts0 : (List MassData)) : Option MassData :=
  Let (↑parts0.length : Int) fun (x1092 : Int) =>
  Let (decide (x1092 > (8 : Int))) fun (x1093 : Bool) =>
  Rx.Bind
  (if (x1093 == false) = true then slices_ContainsFunc_265 parts0 fun (a : Tup tb [Ix.tMassData]) => massdata_Combine_1 a
  else some default)
  fun (r1094 : Bool) =>
  Let (bif x1093 then true else r1094) fun (x1095 : Bool) =>
  if x1095 = true then
  some { Mass := (0 : Int), Center := { X := (0 : Int), Y := (0 : Int) : Vec }, Inertia := (0 : Int) : MassData }
  else
  Let (↑parts0.length : Int) fun (x1096 : Int) =>
  LOOP
  (fun (rec1097 : Int × Int × Int × Int × MassData → Option MassData) (s1098 : Int × Int × Int × Int × MassData) =>
  Let (decide (s1098.snd.snd.snd.fst < x1096)) fun (x1099 : Bool) =>
  if x1099 = true then
  Chk ((0 : Int) ≤ s1098.snd.snd.snd.fst ∧ s1098.snd.snd.snd.fst < (↑parts0.length : Int))
  (Let (ix parts0 s1098.snd.snd.snd.fst) fun (x1100 : MassData) =>
  Rx.Bind (fixed_Saturate x1100.Mass) fun (r1101 : Int) =>
  Rx.Bind (fixed_Add s1098.snd.snd.snd.snd.Mass r1101) fun (r1102 : Int) =>
  Let (IntKind.i64.wrap (s1098.fst + r1101)) fun (x1103 : Int) =>
  Rx.Bind (fixed_Saturate x1100.Center.X) fun (r1104 : Int) =>
  Let (IntKind.i64.wrap (r1101 * r1104)) fun (x1105 : Int) =>
  Let (IntKind.i64.wrap (s1098.snd.fst + x1105)) fun (x1106 : Int) =>
  Rx.Bind (fixed_Saturate x1100.Center.Y) fun (r1107 : Int) =>
  Let (IntKind.i64.wrap (r1101 * r1107)) fun (x1108 : Int) =>
  Let (IntKind.i64.wrap (s1098.snd.snd.fst + x1108)) fun (x1109 : Int) =>
  Let (IntKind.i64.wrap (s1098.snd.snd.snd.fst + (1 : Int))) fun (x1110 : Int) =>
  rec1097
  (x1103, x1106, x1109, x1110,
  { Mass := r1102, Center := s1098.snd.snd.snd.snd.Center, Inertia := s1098.snd.snd.snd.snd.Inertia : MassData }))
  else
  Join
  (fun (v1111 : MassData) =>
  Let (↑parts0.length : Int) fun (x1112 : Int) =>
  LOOP
  (fun (rec1113 : Int × MassData → Option MassData) (s1114 : Int × MassData) =>
  Let (decide (s1114.fst < x1112)) fun (x1115 : Bool) =>
  if x1115 = true then
  Chk ((0 : Int) ≤ s1114.fst ∧ s1114.fst < (↑parts0.length : Int))
  (Let (ix parts0 s1114.fst) fun (x1116 : MassData) =>
  Rx.Bind (vec2_Sub x1116.Center s1114.snd.Center) fun (r1117 : Vec) =>
  Rx.Bind (fixed_Add s1114.snd.Inertia x1116.Inertia) fun (r1118 : Int) =>
  Rx.Bind (vec2_Dot r1117 r1117) fun (r1119 : Int) =>
  Rx.Bind (fixed_Mul x1116.Mass r1119) fun (r1120 : Int) =>
  Rx.Bind (fixed_Add r1118 r1120) fun (r1121 : Int) =>
  Let (IntKind.i64.wrap (s1114.fst + (1 : Int))) fun (x1122 : Int) =>
  rec1113 (x1122, { Mass := s1114.snd.Mass, Center := s1114.snd.Center, Inertia := r1121 : MassData }))
  else some s1114.snd)
  fuel ((0 : Int), v1111))
  fun (j1123 : MassData → Option MassData) =>
  Let (decide (s1098.fst > (0 : Int))) fun (x1124 : Bool) =>
  if x1124 = true then
  Rx.Bind (fixed_RoundDiv s1098.snd.fst s1098.fst) fun (r1125 : Int) =>
  Rx.Bind (fixed_RoundDiv s1098.snd.snd.fst s1098.fst) fun (r1126 : Int) =>
  j1123
  { Mass := s1098.snd.snd.snd.snd.Mass, Center := { X := r1125, Y := r1126 : Vec }, Inertia := s1098.snd.snd.snd.snd.Inertia : MassData }
  else j1123 s1098.snd.snd.snd.snd)
  fuel
  ((0 : Int), (0 : Int), (0 : Int), (0 : Int),
  { Mass := (0 : Int), Center := { X := (0 : Int), Y := (0 : Int) : Vec }, Inertia := (0 : Int) : MassData })

noncomputable def massdata_OfFixtures (fixtures0 : (List Fixture)) : Option MassData :=
  Let (↑fixtures0.length : Int) fun (x1127 : Int) =>
  Let (decide (x1127 > (4 : Int))) fun (x1128 : Bool) =>
  if x1128 = true then
  some { Mass := (0 : Int), Center := { X := (0 : Int), Y := (0 : Int) : Vec }, Inertia := (0 : Int) : MassData }
  else
  Let (↑fixtures0.length : Int) fun (x1129 : Int) =>
  LOOP
  (fun (rec1130 : List MassData × Int → Option MassData) (s1131 : List MassData × Int) =>
  Let (decide (s1131.snd < x1129)) fun (x1132 : Bool) =>
  if x1132 = true then
  Join
  (fun (v1133 : List MassData) =>
  Let (IntKind.i64.wrap (s1131.snd + (1 : Int))) fun (x1134 : Int) => rec1130 (v1133, x1134))
  fun (j1135 : List MassData → Option MassData) =>
  Chk ((0 : Int) ≤ s1131.snd ∧ s1131.snd < (↑fixtures0.length : Int))
  (Let (ix fixtures0 s1131.snd) fun (x1136 : Fixture) =>
  Let (!x1136.Sensor) fun (x1137 : Bool) =>
  if x1137 = true then
  Rx.Bind (massdata_OfShape x1136.Shape x1136.Density) fun (r1138 : MassData) =>
  Chk ((List.length s1131.fst + [r1138].length) * (32 : Nat) ≤ (140737488355328 : Nat))
  (Let (s1131.fst ++ [r1138]) fun (x1139 : List MassData) => j1135 x1139)
  else j1135 s1131.fst)
  else Rx.Bind (massdata_Combine s1131.fst) fun (r1140 : MassData) => some r1140)
  fuel ([], (0 : Int))

noncomputable def body_MassData (b0 : Body) : Option MassData :=
  Rx.Bind (massdata_OfFixtures b0.Fixtures) fun (r1141 : MassData) => some r1141

noncomputable def angle_Normalize (a0 : Int) : Option Int :=
  Let (a0.tmod (411776 : Int)) fun (x1142 : Int) =>
  Let (decide (x1142 ≥ (205888 : Int))) fun (x1143 : Bool) =>
  if x1143 = true then Let (IntKind.i64.wrap (x1142 - (411776 : Int))) fun (x1144 : Int) => some x1144
  else
  Let (decide (x1142 < (-205888 : Int))) fun (x1145 : Bool) =>
  if x1145 = true then Let (IntKind.i64.wrap (x1142 + (411776 : Int))) fun (x1146 : Int) => some x1146 else some x1142

noncomputable def angle_abs (x0 : Int) : Option Int :=
  Let (decide (x0 < (0 : Int))) fun (x1147 : Bool) =>
  if x1147 = true then Let (IntKind.i64.wrap ((0 : Int) - x0)) fun (x1148 : Int) => some x1148 else some x0

noncomputable def fixed_Clamp (x0 : Int) (low1 : Int) (high2 : Int) : Option Int :=
  Let (decide (low1 > high2)) fun (x1149 : Bool) =>
  Let (decide (x0 < low1)) fun (x1150 : Bool) =>
  Let (bif x1149 then true else x1150) fun (x1151 : Bool) =>
  if x1151 = true then some low1
  else Let (decide (x0 > high2)) fun (x1152 : Bool) => if x1152 = true then some high2 else some x0

noncomputable def fixed_Div (a0 : Int) (b1 : Int) : Option Int :=
  Rx.Bind (fixed_Saturate a0) fun (r1153 : Int) =>
  Let (IntKind.i64.wrap (r1153 * (65536 : Int))) fun (x1154 : Int) =>
  Rx.Bind (fixed_Saturate b1) fun (r1155 : Int) =>
  Join
  (fun (v1156 : Int × Int) =>
  Rx.Bind (fixed_RoundDiv v1156.fst v1156.snd) fun (r1157 : Int) =>
  Rx.Bind (fixed_Saturate r1157) fun (r1158 : Int) => some r1158)
  fun (j1159 : Int × Int → Option Int) =>
  Let (r1155 == (0 : Int)) fun (x1160 : Bool) =>
  if x1160 = true then
  Rx.Bind (fixed_Clamp x1154 (-1 : Int) (1 : Int)) fun (r1161 : Int) =>
  Let (IntKind.i64.wrap (r1161 * (536870911 : Int))) fun (x1162 : Int) => some x1162
  else
  Let (decide (r1155 < (0 : Int))) fun (x1163 : Bool) =>
  if x1163 = true then
  Let (IntKind.i64.wrap ((0 : Int) - x1154)) fun (x1164 : Int) =>
  Let (IntKind.i64.wrap ((0 : Int) - r1155)) fun (x1165 : Int) => j1159 (x1164, x1165)
  else j1159 (x1154, r1155)

noncomputable def angle_Sin (a0 : Int) : Option Int :=
  Rx.Bind (angle_Normalize a0) fun (r1166 : Int) =>
  Rx.Bind (angle_abs r1166) fun (r1167 : Int) =>
  Join
  (fun (v1168 : Int) =>
  Rx.Bind (fixed_Div v1168 (102944 : Int)) fun (r1169 : Int) =>
  Rx.Bind (fixed_Mul r1169 r1169) fun (r1170 : Int) =>
  Rx.Bind (fixed_Mul r1170 (4569 : Int)) fun (r1171 : Int) =>
  Rx.Bind (fixed_Sub (41906 : Int) r1171) fun (r1172 : Int) =>
  Rx.Bind (fixed_Mul r1170 r1172) fun (r1173 : Int) =>
  Rx.Bind (fixed_Sub (102873 : Int) r1173) fun (r1174 : Int) =>
  Rx.Bind (fixed_Mul r1169 r1174) fun (r1175 : Int) =>
  Let (decide (r1166 < (0 : Int))) fun (x1176 : Bool) =>
  if x1176 = true then Let (IntKind.i64.wrap ((0 : Int) - r1175)) fun (x1177 : Int) => some x1177 else some r1175)
  fun (j1178 : Int → Option Int) =>
  Let (decide (r1167 > (102944 : Int))) fun (x1179 : Bool) =>
  if x1179 = true then Let (IntKind.i64.wrap ((205888 : Int) - r1167)) fun (x1180 : Int) => j1178 x1180 else j1178 r1167

noncomputable def angle_Cos (a0 : Int) : Option Int :=
  Rx.Bind (angle_Normalize a0) fun (r1181 : Int) =>
  Rx.Bind (angle_abs r1181) fun (r1182 : Int) =>
  Let (IntKind.i64.wrap ((102944 : Int) - r1182)) fun (x1183 : Int) =>
  Rx.Bind (angle_Sin x1183) fun (r1184 : Int) => some r1184

noncomputable def angle_Rot (a0 : Int) : Option Rot :=
  Rx.Bind (angle_Cos a0) fun (r1185 : Int) =>
  Rx.Bind (angle_Sin a0) fun (r1186 : Int) =>
  Let (IntKind.i64.wrap (r1185 * r1185)) fun (x1187 : Int) =>
  Let (IntKind.i64.wrap (r1186 * r1186)) fun (x1188 : Int) =>
  Let (IntKind.i64.wrap (x1187 + x1188)) fun (x1189 : Int) =>
  Rx.Bind (fixed_Isqrt x1189) fun (r1190 : Int) =>
  Rx.Bind (fixed_Div r1185 r1190) fun (r1191 : Int) =>
  Rx.Bind (fixed_Div r1186 r1190) fun (r1192 : Int) => some { Cos := r1191, Sin := r1192 : Rot }

noncomputable def vec2_Rotate (r0 : Rot) (v1 : Vec) : Option Vec :=
  Rx.Bind (fixed_Saturate r0.Cos) fun (r1193 : Int) =>
  Rx.Bind (fixed_Saturate r0.Sin) fun (r1194 : Int) =>
  Rx.Bind (vec2_saturate v1) fun (r1195 : Vec) =>
  Let (IntKind.i64.wrap (r1193 * r1195.X)) fun (x1196 : Int) =>
  Let (IntKind.i64.wrap (r1194 * r1195.Y)) fun (x1197 : Int) =>
  Let (IntKind.i64.wrap (x1196 - x1197)) fun (x1198 : Int) =>
  Rx.Bind (vec2_product x1198) fun (r1199 : Int) =>
  Let (IntKind.i64.wrap (r1194 * r1195.X)) fun (x1200 : Int) =>
  Let (IntKind.i64.wrap (r1193 * r1195.Y)) fun (x1201 : Int) =>
  Let (IntKind.i64.wrap (x1200 + x1201)) fun (x1202 : Int) =>
  Rx.Bind (vec2_product x1202) fun (r1203 : Int) => some { X := r1199, Y := r1203 : Vec }

noncomputable def vec2_Add (a0 : Vec) (b1 : Vec) : Option Vec :=
  Rx.Bind (fixed_Add a0.X b1.X) fun (r1204 : Int) =>
  Rx.Bind (fixed_Add a0.Y b1.Y) fun (r1205 : Int) => some { X := r1204, Y := r1205 : Vec }

noncomputable def transform_Apply (t0 : Transform) (v1 : Vec) : Option Vec :=
  Rx.Bind (angle_Rot t0.Angle) fun (r1206 : Rot) =>
  Rx.Bind (vec2_Rotate r1206 v1) fun (r1207 : Vec) => Rx.Bind (vec2_Add r1207 t0.Position) fun (r1208 : Vec) => some r1208

noncomputable def body_WorldCenter (b0 : Body) : Option Vec :=
  Rx.Bind (body_MassData b0) fun (r1209 : MassData) =>
  Rx.Bind (transform_Apply b0.Transform r1209.Center) fun (r1210 : Vec) => some r1210

noncomputable def massdata_Inverse (m0 : MassData) (kind1 : Int) (fixedRotation2 : Bool) : Option (Int × Int) :=
  Let (kind1 != (3 : Int)) fun (x1211 : Bool) =>
  if x1211 = true then some ((0 : Int), (0 : Int))
  else
  Join
  (fun (v1212 : Int) =>
  Join (fun (v1213 : Int) => some (v1212, v1213)) fun (j1214 : Int → Option (Int × Int)) =>
  Let (decide (m0.Inertia > (0 : Int))) fun (x1215 : Bool) =>
  Let (!fixedRotation2) fun (x1216 : Bool) =>
  Let (bif x1215 then x1216 else false) fun (x1217 : Bool) =>
  if x1217 = true then Rx.Bind (fixed_Div (65536 : Int) m0.Inertia) fun (r1218 : Int) => j1214 r1218 else j1214 (0 : Int))
  fun (j1219 : Int → Option (Int × Int)) =>
  Let (decide (m0.Mass > (0 : Int))) fun (x1220 : Bool) =>
  if x1220 = true then Rx.Bind (fixed_Div (65536 : Int) m0.Mass) fun (r1221 : Int) => j1219 r1221 else j1219 (65536 : Int)

noncomputable def body_SolverBody (b0 : Body) : Option SolverBody :=
  Rx.Bind (body_MassData b0) fun (r1222 : MassData) =>
  Rx.Bind (massdata_Inverse r1222 b0.Kind b0.FixedRotation) fun (r1223 : Int × Int) =>
  some
  { Velocity := b0.Velocity, AngularVelocity := b0.AngularVelocity, InvMass := r1223.fst, InvInertia := r1223.snd : SolverBody }

noncomputable def vec2_Scale (v0 : Vec) (k1 : Int) : Option Vec :=
  Rx.Bind (fixed_Mul v0.X k1) fun (r1224 : Int) =>
  Rx.Bind (fixed_Mul v0.Y k1) fun (r1225 : Int) => some { X := r1224, Y := r1225 : Vec }

noncomputable def body_ClampVelocity (b0 : Body) : Option Body :=
  Rx.Bind (fixed_Clamp b0.Velocity.X (-16777216 : Int) (16777216 : Int)) fun (r1226 : Int) =>
  Rx.Bind (fixed_Clamp b0.Velocity.Y (-16777216 : Int) (16777216 : Int)) fun (r1227 : Int) =>
  Rx.Bind (fixed_Clamp b0.AngularVelocity (-4194304 : Int) (4194304 : Int)) fun (r1228 : Int) =>
  some
  { ID := b0.ID, Kind := b0.Kind, Transform := b0.Transform, Velocity := { X := r1226, Y := r1227 : Vec }, AngularVelocity := r1228, Force := b0.Force, Torque := b0.Torque, LinearDamping := b0.LinearDamping, AngularDamping := b0.AngularDamping, GravityScale := b0.GravityScale, Bullet := b0.Bullet, FixedRotation := b0.FixedRotation, NoSleep := b0.NoSleep, Asleep := b0.Asleep, IdleSteps := b0.IdleSteps, Fixtures := b0.Fixtures : Body }

noncomputable def body_awake (b0 : Body) : Option Body :=
  Rx.Bind (body_ClampVelocity b0) fun (r1229 : Body) =>
  some
  { ID := r1229.ID, Kind := r1229.Kind, Transform := r1229.Transform, Velocity := r1229.Velocity, AngularVelocity := r1229.AngularVelocity, Force := r1229.Force, Torque := r1229.Torque, LinearDamping := r1229.LinearDamping, AngularDamping := r1229.AngularDamping, GravityScale := r1229.GravityScale, Bullet := r1229.Bullet, FixedRotation := r1229.FixedRotation, NoSleep := r1229.NoSleep, Asleep := false, IdleSteps := (0 : Int), Fixtures := r1229.Fixtures : Body }

noncomputable def body_ApplyImpulse (b0 : Body) (point1 : Vec) (impulse2 : Vec) : Option Body :=
  Let (b0.Kind != (3 : Int)) fun (x1230 : Bool) =>
  if x1230 = true then some b0
  else
  Rx.Bind (body_SolverBody b0) fun (r1231 : SolverBody) =>
  Rx.Bind (body_WorldCenter b0) fun (r1232 : Vec) =>
  Rx.Bind (vec2_Sub point1 r1232) fun (r1233 : Vec) =>
  Rx.Bind (vec2_Scale impulse2 r1231.InvMass) fun (r1234 : Vec) =>
  Rx.Bind (vec2_Add b0.Velocity r1234) fun (r1235 : Vec) =>
  Rx.Bind (vec2_Cross r1233 impulse2) fun (r1236 : Int) =>
  Rx.Bind (fixed_Mul r1236 r1231.InvInertia) fun (r1237 : Int) =>
  Rx.Bind (fixed_Add b0.AngularVelocity r1237) fun (r1238 : Int) =>
  Rx.Bind
  (body_awake
  { ID := b0.ID, Kind := b0.Kind, Transform := b0.Transform, Velocity := r1235, AngularVelocity := r1238, Force := b0.Force, Torque := b0.Torque, LinearDamping := b0.LinearDamping, AngularDamping := b0.AngularDamping, GravityScale := b0.GravityScale, Bullet := b0.Bullet, FixedRotation := b0.FixedRotation, NoSleep := b0.NoSleep, Asleep := b0.Asleep, IdleSteps := b0.IdleSteps, Fixtures := b0.Fixtures : Body })
  fun (r1239 : Body) => some r1239

noncomputable def body_ApplyAngularImpulse (b0 : Body) (impulse1 : Int) : Option Body :=
  Let (b0.Kind != (3 : Int)) fun (x1240 : Bool) =>
  if x1240 = true then some b0
  else
  Rx.Bind (body_SolverBody b0) fun (r1241 : SolverBody) =>
  Rx.Bind (fixed_Mul impulse1 r1241.InvInertia) fun (r1242 : Int) =>
  Rx.Bind (fixed_Add b0.AngularVelocity r1242) fun (r1243 : Int) =>
  Rx.Bind
  (body_awake
  { ID := b0.ID, Kind := b0.Kind, Transform := b0.Transform, Velocity := b0.Velocity, AngularVelocity := r1243, Force := b0.Force, Torque := b0.Torque, LinearDamping := b0.LinearDamping, AngularDamping := b0.AngularDamping, GravityScale := b0.GravityScale, Bullet := b0.Bullet, FixedRotation := b0.FixedRotation, NoSleep := b0.NoSleep, Asleep := b0.Asleep, IdleSteps := b0.IdleSteps, Fixtures := b0.Fixtures : Body })
  fun (r1244 : Body) => some r1244

noncomputable def input_changed (b0 : Body) (x1 : Input) : Option Body :=
  Join (fun (v1245 : Body × Body) => some v1245.fst) fun (j1246 : Body × Body → Option Body) =>
  Let (x1.Kind == (1 : Int)) fun (x1247 : Bool) =>
  if x1247 = true then
  Rx.Bind (body_WorldCenter b0) fun (r1248 : Vec) =>
  Rx.Bind (body_ApplyImpulse b0 r1248 x1.Vec) fun (r1249 : Body) => some r1249
  else
  Let (x1.Kind == (3 : Int)) fun (x1250 : Bool) =>
  if x1250 = true then Rx.Bind (body_ApplyAngularImpulse b0 x1.Value) fun (r1251 : Body) => some r1251
  else
  Let (x1.Kind == (2 : Int)) fun (x1252 : Bool) =>
  if x1252 = true then
  Rx.Bind (vec2_Add b0.Force x1.Vec) fun (r1253 : Vec) =>
  j1246
  ({ ID := b0.ID, Kind := b0.Kind, Transform := b0.Transform, Velocity := b0.Velocity, AngularVelocity := b0.AngularVelocity, Force := r1253, Torque := b0.Torque, LinearDamping := b0.LinearDamping, AngularDamping := b0.AngularDamping, GravityScale := b0.GravityScale, Bullet := b0.Bullet, FixedRotation := b0.FixedRotation, NoSleep := b0.NoSleep, Asleep := b0.Asleep, IdleSteps := b0.IdleSteps, Fixtures := b0.Fixtures : Body },
  { ID := (0 : Int), Kind := (0 : Int), Transform := { Position := { X := (0 : Int), Y := (0 : Int) : Vec }, Angle := (0 : Int) : Transform }, Velocity := { X := (0 : Int), Y := (0 : Int) : Vec }, AngularVelocity := (0 : Int), Force := { X := (0 : Int), Y := (0 : Int) : Vec }, Torque := (0 : Int), LinearDamping := (0 : Int), AngularDamping := (0 : Int), GravityScale := (0 : Int), Bullet := false, FixedRotation := false, NoSleep := false, Asleep := false, IdleSteps := (0 : Int), Fixtures := [] : Body })
  else
  Let (x1.Kind == (4 : Int)) fun (x1254 : Bool) =>
  if x1254 = true then
  j1246
  ({ ID := b0.ID, Kind := b0.Kind, Transform := { Position := x1.Vec, Angle := x1.Value : Transform }, Velocity := b0.Velocity, AngularVelocity := b0.AngularVelocity, Force := b0.Force, Torque := b0.Torque, LinearDamping := b0.LinearDamping, AngularDamping := b0.AngularDamping, GravityScale := b0.GravityScale, Bullet := b0.Bullet, FixedRotation := b0.FixedRotation, NoSleep := b0.NoSleep, Asleep := b0.Asleep, IdleSteps := b0.IdleSteps, Fixtures := b0.Fixtures : Body },
  { ID := (0 : Int), Kind := (0 : Int), Transform := { Position := { X := (0 : Int), Y := (0 : Int) : Vec }, Angle := (0 : Int) : Transform }, Velocity := { X := (0 : Int), Y := (0 : Int) : Vec }, AngularVelocity := (0 : Int), Force := { X := (0 : Int), Y := (0 : Int) : Vec }, Torque := (0 : Int), LinearDamping := (0 : Int), AngularDamping := (0 : Int), GravityScale := (0 : Int), Bullet := false, FixedRotation := false, NoSleep := false, Asleep := false, IdleSteps := (0 : Int), Fixtures := [] : Body })
  else
  Let (x1.Kind == (5 : Int)) fun (x1255 : Bool) =>
  if x1255 = true then
  Rx.Bind
  (body_ClampVelocity
  { ID := b0.ID, Kind := b0.Kind, Transform := b0.Transform, Velocity := x1.Vec, AngularVelocity := x1.Value, Force := b0.Force, Torque := b0.Torque, LinearDamping := b0.LinearDamping, AngularDamping := b0.AngularDamping, GravityScale := b0.GravityScale, Bullet := b0.Bullet, FixedRotation := b0.FixedRotation, NoSleep := b0.NoSleep, Asleep := b0.Asleep, IdleSteps := b0.IdleSteps, Fixtures := b0.Fixtures : Body })
  fun (r1256 : Body) =>
  j1246
  (r1256,
  { ID := (0 : Int), Kind := (0 : Int), Transform := { Position := { X := (0 : Int), Y := (0 : Int) : Vec }, Angle := (0 : Int) : Transform }, Velocity := { X := (0 : Int), Y := (0 : Int) : Vec }, AngularVelocity := (0 : Int), Force := { X := (0 : Int), Y := (0 : Int) : Vec }, Torque := (0 : Int), LinearDamping := (0 : Int), AngularDamping := (0 : Int), GravityScale := (0 : Int), Bullet := false, FixedRotation := false, NoSleep := false, Asleep := false, IdleSteps := (0 : Int), Fixtures := [] : Body })
  else
  j1246
  (b0,
  { ID := (0 : Int), Kind := (0 : Int), Transform := { Position := { X := (0 : Int), Y := (0 : Int) : Vec }, Angle := (0 : Int) : Transform }, Velocity := { X := (0 : Int), Y := (0 : Int) : Vec }, AngularVelocity := (0 : Int), Force := { X := (0 : Int), Y := (0 : Int) : Vec }, Torque := (0 : Int), LinearDamping := (0 : Int), AngularDamping := (0 : Int), GravityScale := (0 : Int), Bullet := false, FixedRotation := false, NoSleep := false, Asleep := false, IdleSteps := (0 : Int), Fixtures := [] : Body })

noncomputable def input_applyToBody (w0 : World_) (x1 : Input) : Option (World_ × Int) :=
  Rx.Bind (world_FindBody w0 x1.ID) fun (r1257 : Int) =>
  Let (decide (r1257 < (0 : Int))) fun (x1258 : Bool) =>
  if x1258 = true then
  some
  ({ Settings := { TimeStep := (0 : Int), Gravity := { X := (0 : Int), Y := (0 : Int) : Vec }, Iterations := (0 : Int), SleepSteps := (0 : Int) : Settings }, Bodies := [], Joints := [], Contacts := [], Overlaps := [], NextID := (0 : Int), Frame := (0 : Int) : World_ },
  (8 : Int))
  else
  Chk ((0 : Int) ≤ r1257 ∧ r1257 < (↑w0.Bodies.length : Int))
  (Let (ix w0.Bodies r1257) fun (x1259 : Body) =>
  Rx.Bind (input_checkBody x1259 x1) fun (r1260 : Int) =>
  Let (r1260 != (0 : Int)) fun (x1261 : Bool) =>
  if x1261 = true then
  some
  ({ Settings := { TimeStep := (0 : Int), Gravity := { X := (0 : Int), Y := (0 : Int) : Vec }, Iterations := (0 : Int), SleepSteps := (0 : Int) : Settings }, Bodies := [], Joints := [], Contacts := [], Overlaps := [], NextID := (0 : Int), Frame := (0 : Int) : World_ },
  r1260)
  else
  Rx.Bind (world_Clone w0) fun (r1262 : World_) =>
  Chk ((0 : Int) ≤ r1257 ∧ r1257 < (↑r1262.Bodies.length : Int))
  (Chk ((0 : Int) ≤ r1257 ∧ r1257 < (↑r1262.Bodies.length : Int))
  (Let (ix r1262.Bodies r1257) fun (x1263 : Body) =>
  Rx.Bind (input_changed x1263 x1) fun (r1264 : Body) =>
  Chk ((0 : Int) ≤ r1257 ∧ r1257 < (↑r1262.Bodies.length : Int))
  (Chk ((0 : Int) ≤ r1257 ∧ r1257 < (↑r1262.Bodies.length : Int))
  (Let (r1262.Bodies.set r1257.toNat r1264) fun (x1265 : List Body) =>
  Rx.Bind
  (world_WakeBody
  { Settings := r1262.Settings, Bodies := x1265, Joints := r1262.Joints, Contacts := r1262.Contacts, Overlaps := r1262.Overlaps, NextID := r1262.NextID, Frame := r1262.Frame : World_ }
  x1.ID)
  fun (r1266 : World_) => some (r1266, (0 : Int)))))))

noncomputable def input_Apply (w0 : World_) (x1 : Input) : Option (World_ × Int × Int) :=
  Rx.Bind (world_Validate w0) fun (r1267 : Int) =>
  Let (r1267 != (0 : Int)) fun (x1268 : Bool) =>
  if x1268 = true then
  some
  ({ Settings := { TimeStep := (0 : Int), Gravity := { X := (0 : Int), Y := (0 : Int) : Vec }, Iterations := (0 : Int), SleepSteps := (0 : Int) : Settings }, Bodies := [], Joints := [], Contacts := [], Overlaps := [], NextID := (0 : Int), Frame := (0 : Int) : World_ },
  (0 : Int), (18 : Int))
  else
  Rx.Bind (input_Validate x1) fun (r1269 : Int) =>
  Let (r1269 != (0 : Int)) fun (x1270 : Bool) =>
  if x1270 = true then
  some
  ({ Settings := { TimeStep := (0 : Int), Gravity := { X := (0 : Int), Y := (0 : Int) : Vec }, Iterations := (0 : Int), SleepSteps := (0 : Int) : Settings }, Bodies := [], Joints := [], Contacts := [], Overlaps := [], NextID := (0 : Int), Frame := (0 : Int) : World_ },
  (0 : Int), r1269)
  else
  Let (x1.Kind == (9 : Int)) fun (x1271 : Bool) =>
  if x1271 = true then Rx.Bind (world_AddBody w0 x1.Body) fun (r1272 : World_ × Int × Int) => some r1272
  else
  Let (x1.Kind == (11 : Int)) fun (x1273 : Bool) =>
  if x1273 = true then Rx.Bind (world_AddJoint w0 x1.Joint) fun (r1274 : World_ × Int × Int) => some r1274
  else
  Let (x1.Kind == (10 : Int)) fun (x1275 : Bool) =>
  if x1275 = true then
  Rx.Bind (world_RemoveBody w0 x1.ID) fun (r1276 : World_ × Int) => some (r1276.fst, (0 : Int), r1276.snd)
  else
  Let (x1.Kind == (12 : Int)) fun (x1277 : Bool) =>
  if x1277 = true then
  Rx.Bind (world_RemoveJoint w0 x1.ID) fun (r1278 : World_ × Int) => some (r1278.fst, (0 : Int), r1278.snd)
  else
  Join
  (fun (v1279 : Bool) =>
  if v1279 = true then
  Rx.Bind (input_applyToJoint w0 x1) fun (r1280 : World_ × Int) => some (r1280.fst, (0 : Int), r1280.snd)
  else Rx.Bind (input_applyToBody w0 x1) fun (r1281 : World_ × Int) => some (r1281.fst, (0 : Int), r1281.snd))
  fun (j1282 : Bool → Option (World_ × Int × Int)) =>
  Let (x1.Kind == (7 : Int)) fun (x1283 : Bool) =>
  if x1283 = true then j1282 x1283 else Let (x1.Kind == (8 : Int)) fun (x1284 : Bool) => j1282 x1284

noncomputable def caromlaw43_example  : Option Bool :=
  Rx.Bind
  (input_Apply
  { Settings := { TimeStep := (1024 : Int), Gravity := { X := (0 : Int), Y := (0 : Int) : Vec }, Iterations := (1 : Int), SleepSteps := (0 : Int) : Settings }, Bodies := [{ ID := (1 : Int), Kind := (1 : Int), Transform := { Position := { X := (0 : Int), Y := (0 : Int) : Vec }, Angle := (0 : Int) : Transform }, Velocity := { X := (0 : Int), Y := (0 : Int) : Vec }, AngularVelocity := (0 : Int), Force := { X := (0 : Int), Y := (0 : Int) : Vec }, Torque := (0 : Int), LinearDamping := (0 : Int), AngularDamping := (0 : Int), GravityScale := (0 : Int), Bullet := false, FixedRotation := false, NoSleep := false, Asleep := false, IdleSteps := (0 : Int), Fixtures := [] : Body }, { ID := (2 : Int), Kind := (3 : Int), Transform := { Position := { X := (0 : Int), Y := (0 : Int) : Vec }, Angle := (0 : Int) : Transform }, Velocity := { X := (0 : Int), Y := (0 : Int) : Vec }, AngularVelocity := (0 : Int), Force := { X := (0 : Int), Y := (0 : Int) : Vec }, Torque := (0 : Int), LinearDamping := (0 : Int), AngularDamping := (0 : Int), GravityScale := (0 : Int), Bullet := false, FixedRotation := false, NoSleep := false, Asleep := true, IdleSteps := (0 : Int), Fixtures := [] : Body }], Joints := [], Contacts := [], Overlaps := [], NextID := (3 : Int), Frame := (0 : Int) : World_ }
  { Kind := (5 : Int), ID := (1 : Int), Vec := { X := (0 : Int), Y := (0 : Int) : Vec }, Value := (0 : Int), Body := { ID := (0 : Int), Kind := (0 : Int), Transform := { Position := { X := (0 : Int), Y := (0 : Int) : Vec }, Angle := (0 : Int) : Transform }, Velocity := { X := (0 : Int), Y := (0 : Int) : Vec }, AngularVelocity := (0 : Int), Force := { X := (0 : Int), Y := (0 : Int) : Vec }, Torque := (0 : Int), LinearDamping := (0 : Int), AngularDamping := (0 : Int), GravityScale := (0 : Int), Bullet := false, FixedRotation := false, NoSleep := false, Asleep := false, IdleSteps := (0 : Int), Fixtures := [] : Body }, Joint := { ID := (0 : Int), Kind := (0 : Int), BodyA := (0 : Int), BodyB := (0 : Int), AnchorA := { X := (0 : Int), Y := (0 : Int) : Vec }, AnchorB := { X := (0 : Int), Y := (0 : Int) : Vec }, Axis := { X := (0 : Int), Y := (0 : Int) : Vec }, ReferenceAngle := (0 : Int), EnableLimit := false, Lower := (0 : Int), Upper := (0 : Int), EnableMotor := false, MotorSpeed := (0 : Int), MaxForce := (0 : Int), Softness := (0 : Int), BreakForce := (0 : Int), CollideConnected := false, Impulses := ((0 : Int), (0 : Int), (0 : Int), (0 : Int)) : Joint } : Input })
  fun (r1285 : World_ × Int × Int) =>
  Rx.Bind
  (input_Apply
  { Settings := { TimeStep := (1024 : Int), Gravity := { X := (0 : Int), Y := (0 : Int) : Vec }, Iterations := (1 : Int), SleepSteps := (0 : Int) : Settings }, Bodies := [{ ID := (1 : Int), Kind := (1 : Int), Transform := { Position := { X := (0 : Int), Y := (0 : Int) : Vec }, Angle := (0 : Int) : Transform }, Velocity := { X := (0 : Int), Y := (0 : Int) : Vec }, AngularVelocity := (0 : Int), Force := { X := (0 : Int), Y := (0 : Int) : Vec }, Torque := (0 : Int), LinearDamping := (0 : Int), AngularDamping := (0 : Int), GravityScale := (0 : Int), Bullet := false, FixedRotation := false, NoSleep := false, Asleep := false, IdleSteps := (0 : Int), Fixtures := [] : Body }, { ID := (2 : Int), Kind := (3 : Int), Transform := { Position := { X := (0 : Int), Y := (0 : Int) : Vec }, Angle := (0 : Int) : Transform }, Velocity := { X := (0 : Int), Y := (0 : Int) : Vec }, AngularVelocity := (0 : Int), Force := { X := (0 : Int), Y := (0 : Int) : Vec }, Torque := (0 : Int), LinearDamping := (0 : Int), AngularDamping := (0 : Int), GravityScale := (0 : Int), Bullet := false, FixedRotation := false, NoSleep := false, Asleep := true, IdleSteps := (0 : Int), Fixtures := [] : Body }], Joints := [], Contacts := [], Overlaps := [], NextID := (3 : Int), Frame := (0 : Int) : World_ }
  { Kind := (5 : Int), ID := (2 : Int), Vec := { X := (5 : Int), Y := (0 : Int) : Vec }, Value := (7 : Int), Body := { ID := (0 : Int), Kind := (0 : Int), Transform := { Position := { X := (0 : Int), Y := (0 : Int) : Vec }, Angle := (0 : Int) : Transform }, Velocity := { X := (0 : Int), Y := (0 : Int) : Vec }, AngularVelocity := (0 : Int), Force := { X := (0 : Int), Y := (0 : Int) : Vec }, Torque := (0 : Int), LinearDamping := (0 : Int), AngularDamping := (0 : Int), GravityScale := (0 : Int), Bullet := false, FixedRotation := false, NoSleep := false, Asleep := false, IdleSteps := (0 : Int), Fixtures := [] : Body }, Joint := { ID := (0 : Int), Kind := (0 : Int), BodyA := (0 : Int), BodyB := (0 : Int), AnchorA := { X := (0 : Int), Y := (0 : Int) : Vec }, AnchorB := { X := (0 : Int), Y := (0 : Int) : Vec }, Axis := { X := (0 : Int), Y := (0 : Int) : Vec }, ReferenceAngle := (0 : Int), EnableLimit := false, Lower := (0 : Int), Upper := (0 : Int), EnableMotor := false, MotorSpeed := (0 : Int), MaxForce := (0 : Int), Softness := (0 : Int), BreakForce := (0 : Int), CollideConnected := false, Impulses := ((0 : Int), (0 : Int), (0 : Int), (0 : Int)) : Joint } : Input })
  fun (r1286 : World_ × Int × Int) =>
  Rx.Bind
  (input_Apply
  { Settings := { TimeStep := (1024 : Int), Gravity := { X := (0 : Int), Y := (0 : Int) : Vec }, Iterations := (1 : Int), SleepSteps := (0 : Int) : Settings }, Bodies := [{ ID := (1 : Int), Kind := (1 : Int), Transform := { Position := { X := (0 : Int), Y := (0 : Int) : Vec }, Angle := (0 : Int) : Transform }, Velocity := { X := (0 : Int), Y := (0 : Int) : Vec }, AngularVelocity := (0 : Int), Force := { X := (0 : Int), Y := (0 : Int) : Vec }, Torque := (0 : Int), LinearDamping := (0 : Int), AngularDamping := (0 : Int), GravityScale := (0 : Int), Bullet := false, FixedRotation := false, NoSleep := false, Asleep := false, IdleSteps := (0 : Int), Fixtures := [] : Body }, { ID := (2 : Int), Kind := (3 : Int), Transform := { Position := { X := (0 : Int), Y := (0 : Int) : Vec }, Angle := (0 : Int) : Transform }, Velocity := { X := (0 : Int), Y := (0 : Int) : Vec }, AngularVelocity := (0 : Int), Force := { X := (0 : Int), Y := (0 : Int) : Vec }, Torque := (0 : Int), LinearDamping := (0 : Int), AngularDamping := (0 : Int), GravityScale := (0 : Int), Bullet := false, FixedRotation := false, NoSleep := false, Asleep := true, IdleSteps := (0 : Int), Fixtures := [] : Body }], Joints := [], Contacts := [], Overlaps := [], NextID := (3 : Int), Frame := (0 : Int) : World_ }
  { Kind := (6 : Int), ID := (3 : Int), Vec := { X := (0 : Int), Y := (0 : Int) : Vec }, Value := (0 : Int), Body := { ID := (0 : Int), Kind := (0 : Int), Transform := { Position := { X := (0 : Int), Y := (0 : Int) : Vec }, Angle := (0 : Int) : Transform }, Velocity := { X := (0 : Int), Y := (0 : Int) : Vec }, AngularVelocity := (0 : Int), Force := { X := (0 : Int), Y := (0 : Int) : Vec }, Torque := (0 : Int), LinearDamping := (0 : Int), AngularDamping := (0 : Int), GravityScale := (0 : Int), Bullet := false, FixedRotation := false, NoSleep := false, Asleep := false, IdleSteps := (0 : Int), Fixtures := [] : Body }, Joint := { ID := (0 : Int), Kind := (0 : Int), BodyA := (0 : Int), BodyB := (0 : Int), AnchorA := { X := (0 : Int), Y := (0 : Int) : Vec }, AnchorB := { X := (0 : Int), Y := (0 : Int) : Vec }, Axis := { X := (0 : Int), Y := (0 : Int) : Vec }, ReferenceAngle := (0 : Int), EnableLimit := false, Lower := (0 : Int), Upper := (0 : Int), EnableMotor := false, MotorSpeed := (0 : Int), MaxForce := (0 : Int), Softness := (0 : Int), BreakForce := (0 : Int), CollideConnected := false, Impulses := ((0 : Int), (0 : Int), (0 : Int), (0 : Int)) : Joint } : Input })
  fun (r1287 : World_ × Int × Int) =>
  Let (r1285.snd.snd == (10 : Int)) fun (x1288 : Bool) =>
  Let (r1286.snd.snd == (0 : Int)) fun (x1289 : Bool) =>
  Let (bif x1288 then x1289 else false) fun (x1290 : Bool) =>
  Let (r1286.snd.fst == (0 : Int)) fun (x1291 : Bool) =>
  Let (bif x1290 then x1291 else false) fun (x1292 : Bool) =>
  Let (↑r1286.fst.Bodies.length : Int) fun (x1293 : Int) =>
  Let (x1293 == (2 : Int)) fun (x1294 : Bool) =>
  Let (bif x1292 then x1294 else false) fun (x1295 : Bool) =>
  Chk ((x1295 == true) = true → (0 : Int) ≤ (1 : Int) ∧ (1 : Int) < (↑r1286.fst.Bodies.length : Int))
  (Let (ix r1286.fst.Bodies (1 : Int)) fun (x1296 : Body) =>
  Let (x1296.Velocity.X == (5 : Int)) fun (x1297 : Bool) =>
  Let (bif x1295 then x1297 else false) fun (x1298 : Bool) =>
  Chk ((x1298 == true) = true → (0 : Int) ≤ (1 : Int) ∧ (1 : Int) < (↑r1286.fst.Bodies.length : Int))
  (Let (ix r1286.fst.Bodies (1 : Int)) fun (x1299 : Body) =>
  Let (x1299.AngularVelocity == (7 : Int)) fun (x1300 : Bool) =>
  Let (bif x1298 then x1300 else false) fun (x1301 : Bool) =>
  Chk ((x1301 == true) = true → (0 : Int) ≤ (1 : Int) ∧ (1 : Int) < (↑r1286.fst.Bodies.length : Int))
  (Let (ix r1286.fst.Bodies (1 : Int)) fun (x1302 : Body) =>
  Let (!x1302.Asleep) fun (x1303 : Bool) =>
  Let (bif x1301 then x1303 else false) fun (x1304 : Bool) =>
  Let (r1287.snd.snd == (8 : Int)) fun (x1305 : Bool) =>
  Let (bif x1304 then x1305 else false) fun (x1306 : Bool) =>
  Rx.Bind
  (if (x1306 == true) = true then
  input_Validate
  { Kind := (6 : Int), ID := (1 : Int), Vec := { X := (0 : Int), Y := (0 : Int) : Vec }, Value := (1 : Int), Body := { ID := (0 : Int), Kind := (0 : Int), Transform := { Position := { X := (0 : Int), Y := (0 : Int) : Vec }, Angle := (0 : Int) : Transform }, Velocity := { X := (0 : Int), Y := (0 : Int) : Vec }, AngularVelocity := (0 : Int), Force := { X := (0 : Int), Y := (0 : Int) : Vec }, Torque := (0 : Int), LinearDamping := (0 : Int), AngularDamping := (0 : Int), GravityScale := (0 : Int), Bullet := false, FixedRotation := false, NoSleep := false, Asleep := false, IdleSteps := (0 : Int), Fixtures := [] : Body }, Joint := { ID := (0 : Int), Kind := (0 : Int), BodyA := (0 : Int), BodyB := (0 : Int), AnchorA := { X := (0 : Int), Y := (0 : Int) : Vec }, AnchorB := { X := (0 : Int), Y := (0 : Int) : Vec }, Axis := { X := (0 : Int), Y := (0 : Int) : Vec }, ReferenceAngle := (0 : Int), EnableLimit := false, Lower := (0 : Int), Upper := (0 : Int), EnableMotor := false, MotorSpeed := (0 : Int), MaxForce := (0 : Int), Softness := (0 : Int), BreakForce := (0 : Int), CollideConnected := false, Impulses := ((0 : Int), (0 : Int), (0 : Int), (0 : Int)) : Joint } : Input }
  else some default)
  fun (r1307 : Int) =>
  Let (r1307 == (3 : Int)) fun (x1308 : Bool) => Let (bif x1306 then x1308 else false) fun (x1309 : Bool) => some x1309)))

noncomputable def caromref43_UsedFields (k0 : Int) : Option (Bool × Bool × Bool) :=
  Join
  (fun (v1310 : Bool) =>
  if v1310 = true then some (true, true, false)
  else
  Join
  (fun (v1311 : Bool) =>
  if v1311 = true then some (true, false, true)
  else
  Join
  (fun (v1312 : Bool) =>
  if v1312 = true then some (true, true, true)
  else
  Join (fun (v1313 : Bool) => if v1313 = true then some (true, false, false) else some (false, false, false))
  fun (j1314 : Bool → Option (Bool × Bool × Bool)) =>
  Let (k0 == (6 : Int)) fun (x1315 : Bool) =>
  if x1315 = true then j1314 x1315
  else
  Let (k0 == (10 : Int)) fun (x1316 : Bool) =>
  if x1316 = true then j1314 x1316 else Let (k0 == (12 : Int)) fun (x1317 : Bool) => j1314 x1317)
  fun (j1318 : Bool → Option (Bool × Bool × Bool)) =>
  Let (k0 == (4 : Int)) fun (x1319 : Bool) =>
  if x1319 = true then j1318 x1319 else Let (k0 == (5 : Int)) fun (x1320 : Bool) => j1318 x1320)
  fun (j1321 : Bool → Option (Bool × Bool × Bool)) =>
  Let (k0 == (3 : Int)) fun (x1322 : Bool) =>
  if x1322 = true then j1321 x1322 else Let (k0 == (8 : Int)) fun (x1323 : Bool) => j1321 x1323)
  fun (j1324 : Bool → Option (Bool × Bool × Bool)) =>
  Let (k0 == (1 : Int)) fun (x1325 : Bool) =>
  if x1325 = true then j1324 x1325
  else
  Let (k0 == (2 : Int)) fun (x1326 : Bool) =>
  if x1326 = true then j1324 x1326 else Let (k0 == (7 : Int)) fun (x1327 : Bool) => j1324 x1327

noncomputable def caromref43_unsaturated (n0 : Int) : Option Bool :=
  Let (decide (n0 < (-536870911 : Int))) fun (x1328 : Bool) =>
  Let (decide (n0 > (536870911 : Int))) fun (x1329 : Bool) =>
  Let (bif x1328 then true else x1329) fun (x1330 : Bool) => some x1330

noncomputable def caromref12_EqualVecs (a0 : (List Vec)) (b1 : (List Vec)) : Option Bool :=
  Let (↑a0.length : Int) fun (x1331 : Int) =>
  Let (↑b1.length : Int) fun (x1332 : Int) =>
  Let (x1331 != x1332) fun (x1333 : Bool) =>
  if x1333 = true then some false
  else
  LOOP
  (fun (rec1334 : Int → Option Bool) (s1335 : Int) =>
  Let (↑a0.length : Int) fun (x1336 : Int) =>
  Let (decide (s1335 < x1336)) fun (x1337 : Bool) =>
  if x1337 = true then
  Chk ((0 : Int) ≤ s1335 ∧ s1335 < (↑a0.length : Int))
  (Let (ix a0 s1335) fun (x1338 : Vec) =>
  Chk ((0 : Int) ≤ s1335 ∧ s1335 < (↑b1.length : Int))
  (Let (ix b1 s1335) fun (x1339 : Vec) =>
  Let (!(decide (x1338.X = x1339.X) && decide (x1338.Y = x1339.Y))) fun (x1340 : Bool) =>
  if x1340 = true then some false else Let (IntKind.i64.wrap (s1335 + (1 : Int))) fun (x1341 : Int) => rec1334 x1341))
  else some true)
  fuel (0 : Int)

noncomputable def caromref12_Equal (a0 : Shape) (b1 : Shape) : Option Bool :=
  Let (a0.Kind == b1.Kind) fun (x1342 : Bool) =>
  Let (a0.Radius == b1.Radius) fun (x1343 : Bool) =>
  Let (bif x1342 then x1343 else false) fun (x1344 : Bool) =>
  Rx.Bind (if (x1344 == true) = true then caromref12_EqualVecs a0.Vertices b1.Vertices else some default)
  fun (r1345 : Bool) => Let (bif x1344 then r1345 else false) fun (x1346 : Bool) => some x1346

noncomputable def caromref23_EqualFixture (a0 : Fixture) (b1 : Fixture) : Option Bool :=
  Rx.Bind (caromref12_Equal a0.Shape b1.Shape) fun (r1347 : Bool) =>
  Let (a0.Density == b1.Density) fun (x1348 : Bool) =>
  Let (bif r1347 then x1348 else false) fun (x1349 : Bool) =>
  Let (a0.Friction == b1.Friction) fun (x1350 : Bool) =>
  Let (bif x1349 then x1350 else false) fun (x1351 : Bool) =>
  Let (a0.Restitution == b1.Restitution) fun (x1352 : Bool) =>
  Let (bif x1351 then x1352 else false) fun (x1353 : Bool) =>
  Let (a0.Sensor == b1.Sensor) fun (x1354 : Bool) =>
  Let (bif x1353 then x1354 else false) fun (x1355 : Bool) =>
  Let (a0.Category == b1.Category) fun (x1356 : Bool) =>
  Let (bif x1355 then x1356 else false) fun (x1357 : Bool) =>
  Let (a0.Mask == b1.Mask) fun (x1358 : Bool) =>
  Let (bif x1357 then x1358 else false) fun (x1359 : Bool) =>
  Let (a0.Group == b1.Group) fun (x1360 : Bool) => Let (bif x1359 then x1360 else false) fun (x1361 : Bool) => some x1361

noncomputable def caromref23_Equal (a0 : Body) (b1 : Body) : Option Bool :=
  Let (↑a0.Fixtures.length : Int) fun (x1362 : Int) =>
  Let (↑b1.Fixtures.length : Int) fun (x1363 : Int) =>
  Let (x1362 != x1363) fun (x1364 : Bool) =>
  if x1364 = true then some false
  else
  LOOP
  (fun (rec1365 : Int → Option Bool) (s1366 : Int) =>
  Let (↑a0.Fixtures.length : Int) fun (x1367 : Int) =>
  Let (decide (s1366 < x1367)) fun (x1368 : Bool) =>
  Let (↑b1.Fixtures.length : Int) fun (x1369 : Int) =>
  Let (decide (s1366 < x1369)) fun (x1370 : Bool) =>
  Let (bif x1368 then x1370 else false) fun (x1371 : Bool) =>
  if x1371 = true then
  Chk ((0 : Int) ≤ s1366 ∧ s1366 < (↑a0.Fixtures.length : Int))
  (Let (ix a0.Fixtures s1366) fun (x1372 : Fixture) =>
  Chk ((0 : Int) ≤ s1366 ∧ s1366 < (↑b1.Fixtures.length : Int))
  (Let (ix b1.Fixtures s1366) fun (x1373 : Fixture) =>
  Rx.Bind (caromref23_EqualFixture x1372 x1373) fun (r1374 : Bool) =>
  Let (!r1374) fun (x1375 : Bool) =>
  if x1375 = true then some false else Let (IntKind.i64.wrap (s1366 + (1 : Int))) fun (x1376 : Int) => rec1365 x1376))
  else
  Let (a0.ID != b1.ID) fun (x1377 : Bool) =>
  Let (a0.Kind != b1.Kind) fun (x1378 : Bool) =>
  Let (bif x1377 then true else x1378) fun (x1379 : Bool) =>
  Let
  (!(decide (a0.Transform.Position.X = b1.Transform.Position.X) &&
  decide (a0.Transform.Position.Y = b1.Transform.Position.Y) &&
  decide (a0.Transform.Angle = b1.Transform.Angle)))
  fun (x1380 : Bool) =>
  Let (bif x1379 then true else x1380) fun (x1381 : Bool) =>
  Let (!(decide (a0.Velocity.X = b1.Velocity.X) && decide (a0.Velocity.Y = b1.Velocity.Y))) fun (x1382 : Bool) =>
  Let (bif x1381 then true else x1382) fun (x1383 : Bool) =>
  Let (a0.AngularVelocity != b1.AngularVelocity) fun (x1384 : Bool) =>
  Let (bif x1383 then true else x1384) fun (x1385 : Bool) =>
  Let (!(decide (a0.Force.X = b1.Force.X) && decide (a0.Force.Y = b1.Force.Y))) fun (x1386 : Bool) =>
  Let (bif x1385 then true else x1386) fun (x1387 : Bool) =>
  Let (a0.Torque != b1.Torque) fun (x1388 : Bool) =>
  Let (bif x1387 then true else x1388) fun (x1389 : Bool) =>
  if x1389 = true then some false
  else
  Let (a0.LinearDamping == b1.LinearDamping) fun (x1390 : Bool) =>
  Let (a0.AngularDamping == b1.AngularDamping) fun (x1391 : Bool) =>
  Let (bif x1390 then x1391 else false) fun (x1392 : Bool) =>
  Let (a0.GravityScale == b1.GravityScale) fun (x1393 : Bool) =>
  Let (bif x1392 then x1393 else false) fun (x1394 : Bool) =>
  Let (a0.Bullet == b1.Bullet) fun (x1395 : Bool) =>
  Let (bif x1394 then x1395 else false) fun (x1396 : Bool) =>
  Let (a0.FixedRotation == b1.FixedRotation) fun (x1397 : Bool) =>
  Let (bif x1396 then x1397 else false) fun (x1398 : Bool) =>
  Let (a0.NoSleep == b1.NoSleep) fun (x1399 : Bool) =>
  Let (bif x1398 then x1399 else false) fun (x1400 : Bool) =>
  Let (a0.Asleep == b1.Asleep) fun (x1401 : Bool) =>
  Let (bif x1400 then x1401 else false) fun (x1402 : Bool) =>
  Let (a0.IdleSteps == b1.IdleSteps) fun (x1403 : Bool) =>
  Let (bif x1402 then x1403 else false) fun (x1404 : Bool) => some x1404)
  fuel (0 : Int)

end GoForm
