/- The functions' plain forms. Printed by go3.py. No conditions. -/
import Derived.Test.YtmmijieefobdgaaGreatF43T
set_option linter.all false
set_option maxRecDepth 100000
open Go Go.Rx Go.Proofs Go.RowKit
namespace GoForm
noncomputable section
abbrev zW_ : World_ := {Settings := {TimeStep:=(0:Int), Gravity := {X:=(0:Int), Y:=(0:Int):Vec}, Iterations:=(0:Int), SleepSteps:=(0:Int):Settings}, Bodies:=[], Joints:=[], Contacts:=[], Overlaps:=[], NextID:=(0:Int), Frame:=(0:Int):World_}
def caromref22_Few (bodies0 : (List Body)) (limit1 : Int) : Option Bool :=
 Let (↑bodies0.length : Int) fun x1 =>
 Let (decide (x1 > limit1)) fun x2 =>
 if x2 = true then some false
 else
 LOOP
 (fun (rec3 : Int → Option Bool) (s4 : Int) =>
 Let (↑bodies0.length : Int) fun x5 =>
 Let (decide (s4 < x5)) fun x6 =>
 if x6 = true then
 Chk ((0:Int) ≤ s4 ∧ s4 < (↑bodies0.length : Int))
 (Let (ix bodies0 s4) fun x7 =>
 Let (↑x7.Fixtures.length : Int) fun x8 =>
 Let (decide (x8 > (8:Int))) fun x9 =>
 if x9 = true then some false
 else
 LOOP
 (fun (rec10 : Int → Option Bool) (s11 : Int) =>
 Chk ((0:Int) ≤ s4 ∧ s4 < (↑bodies0.length : Int))
 (Let (ix bodies0 s4) fun x12 =>
 Let (↑x12.Fixtures.length : Int) fun x13 =>
 Let (decide (s11 < x13)) fun x14 =>
 if x14 = true then
 Chk ((0:Int) ≤ s4 ∧ s4 < (↑bodies0.length : Int))
 (Let (ix bodies0 s4) fun x15 =>
 Chk ((0:Int) ≤ s11 ∧ s11 < (↑x15.Fixtures.length : Int))
 (Let (ix x15.Fixtures s11) fun x16 =>
 Let (↑x16.Shape.Vertices.length : Int) fun x17 =>
 Let (decide (x17 > (20:Int))) fun x18 =>
 if x18 = true then some false else Let (IntKind.i64.wrap (s11 + (1:Int))) fun x19 => rec10 x19))
 else Let (IntKind.i64.wrap (s4 + (1:Int))) fun x20 => rec3 x20))
 fuel (0:Int))
 else some true)
 fuel (0:Int)
def caromlaw43_few (l0 : (List Input)) : Option Bool :=
 Let (↑l0.length : Int) fun x21 =>
 Let (decide (x21 > (40:Int))) fun x22 =>
 if x22 = true then some false
 else
 LOOP
 (fun (rec23 : Int → Option Bool) (s24 : Int) =>
 Let (↑l0.length : Int) fun x25 =>
 Let (decide (s24 < x25)) fun x26 =>
 if x26 = true then
 Chk ((0:Int) ≤ s24 ∧ s24 < (↑l0.length : Int))
 (Let (ix l0 s24) fun x27 =>
 Rx.Bind (caromref22_Few [x27.Body] (1:Int)) fun r28 =>
 Let (!r28) fun x29 =>
 if x29 = true then some false else Let (IntKind.i64.wrap (s24 + (1:Int))) fun x30 => rec23 x30)
 else some true)
 fuel (0:Int)
def world_in (x0 : Int) (low1 : Int) (high2 : Int) : Option Bool :=
 Let (decide (x0 ≥ low1)) fun x31 =>
 Let (decide (x0 ≤ high2)) fun x32 => Let (bif x31 then x32 else false) fun x33 => some x33
def world_ValidateSettings (s0 : Settings) : Option Int :=
 Rx.Bind (world_in s0.Gravity.X (-16777216:Int) (16777216:Int)) fun r34 =>
 Rx.Bind (if (r34 == true) = true then world_in s0.Gravity.Y (-16777216:Int) (16777216:Int) else some default)
 fun r35 =>
 Let (bif r34 then r35 else false) fun x36 =>
 Rx.Bind (world_in s0.TimeStep (64:Int) (8192:Int)) fun r37 =>
 Let (!r37) fun x38 =>
 Let (!x36) fun x39 =>
 Let (bif x38 then true else x39) fun x40 =>
 Rx.Bind (if (x40 == false) = true then world_in s0.Iterations (1:Int) (32:Int) else some default)
 fun r41 =>
 Let (!r41) fun x42 =>
 Let (bif x40 then true else x42) fun x43 =>
 Rx.Bind (if (x43 == false) = true then world_in s0.SleepSteps (0:Int) (1048576:Int) else some default)
 fun r44 =>
 Let (!r44) fun x45 =>
 Let (bif x43 then true else x45) fun x46 => if x46 = true then some (6:Int) else some (0:Int)
def body_within (x0 : Int) (low1 : Int) (high2 : Int) : Option Bool :=
 Let (decide (low1 ≤ x0)) fun x47 =>
 Let (decide (x0 ≤ high2)) fun x48 => Let (bif x47 then x48 else false) fun x49 => some x49
def body_bounded (v0 : Vec) (limit1 : Int) : Option Bool :=
 Let (IntKind.i64.wrap ((0:Int) - limit1)) fun x50 =>
 Rx.Bind (body_within v0.X x50 limit1) fun r51 =>
 Let (IntKind.i64.wrap ((0:Int) - limit1)) fun x52 =>
 Rx.Bind (if (r51 == true) = true then body_within v0.Y x52 limit1 else some default) fun r53 =>
 Let (bif r51 then r53 else false) fun x54 => some x54
def transform_inWorld (x0 : Int) : Option Bool :=
 Let (decide (x0 ≥ (-268435456:Int))) fun x55 =>
 Let (decide (x0 ≤ (268435456:Int))) fun x56 => Let (bif x55 then x56 else false) fun x57 => some x57
def transform_Valid (t0 : Transform) : Option Bool :=
 Rx.Bind (transform_inWorld t0.Position.X) fun r58 =>
 Rx.Bind (if (r58 == true) = true then transform_inWorld t0.Position.Y else some default) fun r59 =>
 Let (bif r58 then r59 else false) fun x60 =>
 Let (decide (t0.Angle ≥ (-205888:Int))) fun x61 =>
 Let (bif x60 then x61 else false) fun x62 =>
 Let (decide (t0.Angle < (205888:Int))) fun x63 =>
 Let (bif x62 then x63 else false) fun x64 => some x64
def body_inRange (b0 : Body) : Option Bool :=
 Rx.Bind (body_bounded b0.Velocity (16777216:Int)) fun r65 =>
 Rx.Bind (if (r65 == true) = true then body_within b0.AngularVelocity (-4194304:Int) (4194304:Int) else some default)
 fun r66 =>
 Let (bif r65 then r66 else false) fun x67 =>
 Rx.Bind (body_bounded b0.Force (536870911:Int)) fun r68 =>
 Rx.Bind (if (r68 == true) = true then body_within b0.Torque (-536870911:Int) (536870911:Int) else some default)
 fun r69 =>
 Let (bif r68 then r69 else false) fun x70 =>
 Rx.Bind (body_within b0.LinearDamping (0:Int) (65536:Int)) fun r71 =>
 Rx.Bind (if (r71 == true) = true then body_within b0.AngularDamping (0:Int) (65536:Int) else some default)
 fun r72 =>
 Let (bif r71 then r72 else false) fun x73 =>
 Rx.Bind (body_within b0.GravityScale (-262144:Int) (262144:Int)) fun r74 =>
 Rx.Bind (body_within b0.ID (1:Int) (1099511627776:Int)) fun r75 =>
 Rx.Bind (if (r75 == true) = true then transform_Valid b0.Transform else some default) fun r76 =>
 Let (bif r75 then r76 else false) fun x77 =>
 Let (bif x77 then x67 else false) fun x78 =>
 Let (bif x78 then x70 else false) fun x79 =>
 Let (bif x79 then x73 else false) fun x80 =>
 Let (bif x80 then r74 else false) fun x81 =>
 Rx.Bind (if (x81 == true) = true then body_within b0.IdleSteps (0:Int) (1048576:Int) else some default)
 fun r82 => Let (bif x81 then r82 else false) fun x83 => some x83
def shape_validCount (s0 : Shape) : Option Bool :=
 Let (↑s0.Vertices.length : Int) fun x84 =>
 Let (s0.Kind == (1:Int)) fun x85 =>
 if x85 = true then Let (x84 == (1:Int)) fun x86 => some x86
 else
 Let (s0.Kind == (2:Int)) fun x87 =>
 if x87 = true then Let (x84 == (2:Int)) fun x88 => some x88
 else
 Let (decide (x84 ≥ (3:Int))) fun x89 =>
 Let (decide (x84 ≤ (8:Int))) fun x90 => Let (bif x89 then x90 else false) fun x91 => some x91
def slices_IndexFunc_239 (s0 : (List Vec)) (f1 : (Vec → Option Bool)) : Option Int :=
 Let (↑s0.length : Int) fun x92 =>
 LOOP
 (fun (rec93 : Int → Option Int) (s94 : Int) =>
 Let (decide (s94 < x92)) fun x95 =>
 if x95 = true then
 Chk ((0:Int) ≤ s94 ∧ s94 < (↑s0.length : Int))
 (Let (ix s0 s94) fun x96 =>
 Rx.Bind (f1 x96) fun r97 =>
 if r97 = true then some s94 else Let (IntKind.i64.wrap (s94 + (1:Int))) fun x98 => rec93 x98)
 else some (-1:Int))
 fuel (0:Int)
def slices_ContainsFunc_208 (s0 : (List Vec)) (f1 : (Vec → Option Bool)) : Option Bool :=
 Rx.Bind (slices_IndexFunc_239 s0 f1) fun r99 => Let (decide (r99 ≥ (0:Int))) fun x100 => some x100
def shape_outOfRange (n0 : Int) : Option Bool :=
 Let (decide (n0 < (-1048576:Int))) fun x101 =>
 Let (decide (n0 > (1048576:Int))) fun x102 =>
 Let (bif x101 then true else x102) fun x103 => some x103
def shape_Validate_1 (v0 : Vec) : Option Bool :=
 Rx.Bind (shape_outOfRange v0.X) fun r104 =>
 Rx.Bind (if (r104 == false) = true then shape_outOfRange v0.Y else some default) fun r105 =>
 Let (bif r104 then true else r105) fun x106 => some x106
def fixed_Saturate (x0 : Int) : Option Int :=
 Let (max x0 (-536870911:Int)) fun x107 => Let (min x107 (536870911:Int)) fun x108 => some x108
def fixed_Sub (a0 : Int) (b1 : Int) : Option Int :=
 Rx.Bind (fixed_Saturate a0) fun r109 =>
 Rx.Bind (fixed_Saturate b1) fun r110 =>
 Let (IntKind.i64.wrap (r109 - r110)) fun x111 => Rx.Bind (fixed_Saturate x111) fun r112 => some r112
def vec2_Sub (a0 : Vec) (b1 : Vec) : Option Vec :=
 Rx.Bind (fixed_Sub a0.X b1.X) fun r113 =>
 Rx.Bind (fixed_Sub a0.Y b1.Y) fun r114 => some {X := r113, Y := r114:Vec}
def vec2_saturate (v0 : Vec) : Option Vec :=
 Rx.Bind (fixed_Saturate v0.X) fun r115 =>
 Rx.Bind (fixed_Saturate v0.Y) fun r116 => some {X := r115, Y := r116:Vec}
def vec2_DistanceSquared (a0 : Vec) (b1 : Vec) : Option Int :=
 Rx.Bind (vec2_saturate a0) fun r117 =>
 Rx.Bind (vec2_saturate b1) fun r118 =>
 Let (IntKind.i64.wrap (r118.X - r117.X)) fun x119 =>
 Let (IntKind.i64.wrap (r118.Y - r117.Y)) fun x120 =>
 Let (IntKind.i64.wrap (x119 * x119)) fun x121 =>
 Let (IntKind.i64.wrap (x120 * x120)) fun x122 =>
 Let (IntKind.i64.wrap (x121 + x122)) fun x123 => some x123
def fixed_Isqrt (n0 : Int) : Option Int :=
 Let (decide (n0 < (0:Int))) fun x124 =>
 Let (decide (n0 > (4611686018427387904:Int))) fun x125 =>
 Let (bif x124 then true else x125) fun x126 =>
 if x126 = true then some (0:Int)
 else
 LOOP
 (fun (rec127 : Int × Int → Option Int) (s128 : Int × Int) =>
 Let (decide (s128.snd > (0:Int))) fun x129 =>
 if x129 = true then
 Join (fun (v130 : Int) => Let (bShr IntKind.i64 s128.snd (1:Int)) fun x131 => rec127 (v130, x131))
 fun (j132 : Int → Option Int) =>
 Let (bOr IntKind.i64 s128.fst s128.snd) fun x133 =>
 Let (IntKind.u64.wrap x133) fun x134 =>
 Let (IntKind.u64.wrap x133) fun x135 =>
 Let (IntKind.u64.wrap (x134 * x135)) fun x136 =>
 Let (IntKind.u64.wrap n0) fun x137 =>
 Let (decide (x136 ≤ x137)) fun x138 => if x138 = true then j132 x133 else j132 s128.fst
 else some s128.fst)
 fuel ((0:Int), (2147483648:Int))
def vec2_Length (v0 : Vec) : Option Int :=
 Rx.Bind (vec2_DistanceSquared {X:=(0:Int), Y:=(0:Int):Vec} v0) fun r139 =>
 Rx.Bind (fixed_Isqrt r139) fun r140 => some r140
def polygon_inReach (v0 : Vec) : Option Bool :=
 Let (decide (v0.X ≥ (-1048576:Int))) fun x141 =>
 Let (decide (v0.X ≤ (1048576:Int))) fun x142 =>
 Let (bif x141 then x142 else false) fun x143 =>
 Let (decide (v0.Y ≥ (-1048576:Int))) fun x144 =>
 Let (bif x143 then x144 else false) fun x145 =>
 Let (decide (v0.Y ≤ (1048576:Int))) fun x146 =>
 Let (bif x145 then x146 else false) fun x147 => some x147
def polygon_allInReach (points0 : (List Vec)) : Option Bool :=
 Let (↑points0.length : Int) fun x148 =>
 LOOP
 (fun (rec149 : Int → Option Bool) (s150 : Int) =>
 Let (decide (s150 < x148)) fun x151 =>
 if x151 = true then
 Chk ((0:Int) ≤ s150 ∧ s150 < (↑points0.length : Int))
 (Let (ix points0 s150) fun x152 =>
 Rx.Bind (polygon_inReach x152) fun r153 =>
 Let (!r153) fun x154 =>
 if x154 = true then some false else Let (IntKind.i64.wrap (s150 + (1:Int))) fun x155 => rec149 x155)
 else some true)
 fuel (0:Int)
def vec2_Orientation (a0 : Vec) (b1 : Vec) (c2 : Vec) : Option Int :=
 Rx.Bind (vec2_saturate a0) fun r156 =>
 Rx.Bind (vec2_saturate b1) fun r157 =>
 Rx.Bind (vec2_saturate c2) fun r158 =>
 Let (IntKind.i64.wrap (r157.X - r156.X)) fun x159 =>
 Let (IntKind.i64.wrap (r158.Y - r156.Y)) fun x160 =>
 Let (IntKind.i64.wrap (x159 * x160)) fun x161 =>
 Let (IntKind.i64.wrap (r157.Y - r156.Y)) fun x162 =>
 Let (IntKind.i64.wrap (r158.X - r156.X)) fun x163 =>
 Let (IntKind.i64.wrap (x162 * x163)) fun x164 =>
 Let (IntKind.i64.wrap (x161 - x164)) fun x165 =>
 Let (max (-1:Int) x165) fun x166 => Let (min (1:Int) x166) fun x167 => some x167
def polygon_IsConvex (vertices0 : (List Vec)) : Option Bool :=
 Let (↑vertices0.length : Int) fun x168 =>
 Let (decide (x168 < (3:Int))) fun x169 =>
 Let (decide (x168 > (8:Int))) fun x170 =>
 Let (bif x169 then true else x170) fun x171 =>
 Rx.Bind (if (x171 == false) = true then polygon_allInReach vertices0 else some default) fun r172 =>
 Let (!r172) fun x173 =>
 Let (bif x171 then true else x173) fun x174 =>
 if x174 = true then some false
 else
 Let (↑vertices0.length : Int) fun x175 =>
 LOOP
 (fun (rec176 : Int → Option Bool) (s177 : Int) =>
 Let (decide (s177 < x175)) fun x178 =>
 if x178 = true then
 Chk ((0:Int) ≤ s177 ∧ s177 < (↑vertices0.length : Int))
 (Let (ix vertices0 s177) fun x179 =>
 Let (IntKind.i64.wrap (s177 + (1:Int))) fun x180 =>
 Chk (x168 ≠ (0:Int))
 (Let (x180.tmod x168) fun x181 =>
 Let (↑vertices0.length : Int) fun x182 =>
 LOOP
 (fun (rec183 : Int → Option Bool) (s184 : Int) =>
 Let (decide (s184 < x182)) fun x185 =>
 if x185 = true then
 Chk ((0:Int) ≤ s184 ∧ s184 < (↑vertices0.length : Int))
 (Let (ix vertices0 s184) fun x186 =>
 Let (s184 != s177) fun x187 =>
 Let (s184 != x181) fun x188 =>
 Let (bif x187 then x188 else false) fun x189 =>
 Chk ((x189 == true) = true → (0:Int) ≤ x181 ∧ x181 < (↑vertices0.length : Int))
 (Let (ix vertices0 x181) fun x190 =>
 Rx.Bind (if (x189 == true) = true then vec2_Orientation x179 x190 x186 else some default) fun r191 =>
 Let (r191 != (1:Int)) fun x192 =>
 Let (bif x189 then x192 else false) fun x193 =>
 if x193 = true then some false else Let (IntKind.i64.wrap (s184 + (1:Int))) fun x194 => rec183 x194))
 else Let (IntKind.i64.wrap (s177 + (1:Int))) fun x195 => rec176 x195)
 fuel (0:Int)))
 else some true)
 fuel (0:Int)
def polygon_ShortestEdge (vertices0 : (List Vec)) : Option Int :=
 Rx.Bind (polygon_IsConvex vertices0) fun r196 =>
 Let (!r196) fun x197 =>
 if x197 = true then some (0:Int)
 else
 Let (↑vertices0.length : Int) fun x198 =>
 LOOP
 (fun (rec199 : Int × Int → Option Int) (s200 : Int × Int) =>
 Let (decide (s200.snd < x198)) fun x201 =>
 if x201 = true then
 Chk ((0:Int) ≤ s200.snd ∧ s200.snd < (↑vertices0.length : Int))
 (Let (ix vertices0 s200.snd) fun x202 =>
 Let (IntKind.i64.wrap (s200.snd + (1:Int))) fun x203 =>
 Let (↑vertices0.length : Int) fun x204 =>
 Chk (x204 ≠ (0:Int))
 (Let (x203.tmod x204) fun x205 =>
 Chk ((0:Int) ≤ x205 ∧ x205 < (↑vertices0.length : Int))
 (Let (ix vertices0 x205) fun x206 =>
 Rx.Bind (vec2_Sub x206 x202) fun r207 =>
 Rx.Bind (vec2_Length r207) fun r208 =>
 Let (min s200.fst r208) fun x209 =>
 Let (IntKind.i64.wrap (s200.snd + (1:Int))) fun x210 => rec199 (x209, x210))))
 else some s200.fst)
 fuel ((536870911:Int), (0:Int))
def fixed_RoundDiv (n0 : Int) (d1 : Int) : Option Int :=
 Let (decide (d1 < (1:Int))) fun x211 =>
 Let (decide (d1 > (4611686018427387904:Int))) fun x212 =>
 Let (bif x211 then true else x212) fun x213 =>
 Let (decide (n0 < (-4611686018427387904:Int))) fun x214 =>
 Let (bif x213 then true else x214) fun x215 =>
 Let (decide (n0 > (4611686018427387904:Int))) fun x216 =>
 Let (bif x215 then true else x216) fun x217 =>
 if x217 = true then some (0:Int)
 else
 Chk (d1 ≠ (0:Int))
 (Let (IntKind.i64.wrap (n0.tdiv d1)) fun x218 =>
 Chk (d1 ≠ (0:Int))
 (Let (n0.tmod d1) fun x219 =>
 Join (fun (v220 : Int) => some v220) fun (j221 : Int → Option Int) =>
 Let (IntKind.i64.wrap (d1 - x219)) fun x222 =>
 Let (decide (x219 ≥ x222)) fun x223 =>
 if x223 = true then Let (IntKind.i64.wrap (x218 + (1:Int))) fun x224 => j221 x224
 else
 Let (IntKind.i64.wrap ((0:Int) - x219)) fun x225 =>
 Let (IntKind.i64.wrap (d1 + x219)) fun x226 =>
 Let (decide (x225 ≥ x226)) fun x227 =>
 if x227 = true then Let (IntKind.i64.wrap (x218 - (1:Int))) fun x228 => j221 x228 else j221 x218))
def polygon_fan (vertices0 : (List Vec)) : Option ((List polygon_triangle) × Int) :=
 Chk ((0:Int) ≤ (0:Int) ∧ (0:Int) < (↑vertices0.length : Int))
 (Let (ix vertices0 (0:Int)) fun x229 =>
 LOOP
 (fun (rec230 : List polygon_triangle × Int × Int → Option (List polygon_triangle × Int))
 (s231 : List polygon_triangle × Int × Int) =>
 Let (IntKind.i64.wrap (s231.snd.snd + (1:Int))) fun x232 =>
 Let (↑vertices0.length : Int) fun x233 =>
 Let (decide (x232 < x233)) fun x234 =>
 if x234 = true then
 Chk ((0:Int) ≤ s231.snd.snd ∧ s231.snd.snd < (↑vertices0.length : Int))
 (Let (ix vertices0 s231.snd.snd) fun x235 =>
 Let (IntKind.i64.wrap (x235.X - x229.X)) fun x236 =>
 Chk ((0:Int) ≤ s231.snd.snd ∧ s231.snd.snd < (↑vertices0.length : Int))
 (Let (ix vertices0 s231.snd.snd) fun x237 =>
 Let (IntKind.i64.wrap (x237.Y - x229.Y)) fun x238 =>
 Let (IntKind.i64.wrap (s231.snd.snd + (1:Int))) fun x239 =>
 Chk ((0:Int) ≤ x239 ∧ x239 < (↑vertices0.length : Int))
 (Let (ix vertices0 x239) fun x240 =>
 Let (IntKind.i64.wrap (x240.X - x229.X)) fun x241 =>
 Let (IntKind.i64.wrap (s231.snd.snd + (1:Int))) fun x242 =>
 Chk ((0:Int) ≤ x242 ∧ x242 < (↑vertices0.length : Int))
 (Let (ix vertices0 x242) fun x243 =>
 Let (IntKind.i64.wrap (x243.Y - x229.Y)) fun x244 =>
 Let (IntKind.i64.wrap (x236 * x244)) fun x245 =>
 Let (IntKind.i64.wrap (x238 * x241)) fun x246 =>
 Let (IntKind.i64.wrap (x245 - x246)) fun x247 =>
 Rx.Bind (fixed_RoundDiv x247 (65536:Int)) fun r248 =>
 Chk
 ((List.length s231.fst +
 [{e := {X := x236, Y := x238:Vec}, f := {X := x241, Y := x244:Vec}, cross := r248 : polygon_triangle }].length) *
 (40:Nat) ≤
 (140737488355328:Nat))
 (Let
 (s231.fst ++
 [{e := {X := x236, Y := x238:Vec}, f := {X := x241, Y := x244:Vec}, cross := r248 : polygon_triangle }])
 fun x249 =>
 Let (IntKind.i64.wrap (s231.snd.fst + r248)) fun x250 =>
 Let (IntKind.i64.wrap (s231.snd.snd + (1:Int))) fun x251 => rec230 (x249, x250, x251))))))
 else some (s231.fst, s231.snd.fst))
 fuel ([], (0:Int), (1:Int)))
def polygon_Area (vertices0 : (List Vec)) : Option Int :=
 Rx.Bind (polygon_IsConvex vertices0) fun r252 =>
 Let (!r252) fun x253 =>
 if x253 = true then some (0:Int)
 else
 Rx.Bind (polygon_fan vertices0) fun r254 =>
 Rx.Bind (fixed_RoundDiv r254.snd (2:Int)) fun r255 => some r255
def shape_Validate (s0 : Shape) : Option Int :=
 Let (decide (s0.Kind < (1:Int))) fun x256 =>
 Let (decide (s0.Kind > (3:Int))) fun x257 =>
 Let (bif x256 then true else x257) fun x258 =>
 if x258 = true then some (10:Int)
 else
 Rx.Bind (shape_validCount s0) fun r259 =>
 Let (!r259) fun x260 =>
 if x260 = true then some (11:Int)
 else
 Rx.Bind (slices_ContainsFunc_208 s0.Vertices fun (a : Tup tb [Ix.tVec]) => shape_Validate_1 a) fun r261 =>
 if r261 = true then some (6:Int)
 else
 Join
 (fun (v262 : Bool) =>
 if v262 = true then some (6:Int)
 else
 Let (s0.Kind == (2:Int)) fun x263 =>
 Chk ((x263 == true) = true → (0:Int) ≤ (1:Int) ∧ (1:Int) < (↑s0.Vertices.length : Int))
 (Let (ix s0.Vertices (1:Int)) fun x264 =>
 Chk ((x263 == true) = true → (0:Int) ≤ (0:Int) ∧ (0:Int) < (↑s0.Vertices.length : Int))
 (Let (ix s0.Vertices (0:Int)) fun x265 =>
 Rx.Bind (if (x263 == true) = true then vec2_Sub x264 x265 else some {X := default, Y := default:Vec})
 fun r266 =>
 Rx.Bind (if (x263 == true) = true then vec2_Length r266 else some default) fun r267 =>
 Let (decide (r267 < (4096:Int))) fun x268 =>
 Let (bif x263 then x268 else false) fun x269 =>
 if x269 = true then some (12:Int)
 else
 Let (s0.Kind == (3:Int)) fun x270 =>
 Rx.Bind (if (x270 == true) = true then polygon_IsConvex s0.Vertices else some default) fun r271 =>
 Let (!r271) fun x272 =>
 Rx.Bind (if (x270 == true && x272 == false) = true then polygon_ShortestEdge s0.Vertices else some default)
 fun r273 =>
 Let (decide (r273 < (4096:Int))) fun x274 =>
 Let (bif x272 then true else x274) fun x275 =>
 Rx.Bind (if (x270 == true && x275 == false) = true then polygon_Area s0.Vertices else some default) fun r276 =>
 Let (decide (r276 < (256:Int))) fun x277 =>
 Let (bif x275 then true else x277) fun x278 =>
 Let (bif x270 then x278 else false) fun x279 => if x279 = true then some (12:Int) else some (0:Int))))
 fun (j280 : Bool → Option Int) =>
 Let (s0.Kind == (3:Int)) fun x281 =>
 Let (s0.Radius != (0:Int)) fun x282 =>
 Let (bif x281 then x282 else false) fun x283 =>
 if x283 = true then j280 x283
 else
 Let (s0.Kind != (3:Int)) fun x284 =>
 Let (decide (s0.Radius < (2048:Int))) fun x285 =>
 Let (decide (s0.Radius > (524288:Int))) fun x286 =>
 Let (bif x285 then true else x286) fun x287 =>
 Let (bif x284 then x287 else false) fun x288 => j280 x288
def body_ValidateFixture (f0 : Fixture) : Option Int :=
 Rx.Bind (shape_Validate f0.Shape) fun r289 =>
 Let (r289 != (0:Int)) fun x290 =>
 if x290 = true then some r289
 else
 Rx.Bind (body_within f0.Density (0:Int) (262144:Int)) fun r291 =>
 Rx.Bind (if (r291 == true) = true then body_within f0.Friction (0:Int) (131072:Int) else some default)
 fun r292 =>
 Let (bif r291 then r292 else false) fun x293 =>
 Rx.Bind (if (x293 == true) = true then body_within f0.Restitution (0:Int) (65536:Int) else some default)
 fun r294 =>
 Let (bif x293 then r294 else false) fun x295 =>
 Rx.Bind (body_within f0.Category (0:Int) (65535:Int)) fun r296 =>
 Rx.Bind (if (r296 == true) = true then body_within f0.Mask (0:Int) (65535:Int) else some default)
 fun r297 =>
 Let (bif r296 then r297 else false) fun x298 =>
 Rx.Bind (if (x298 == true) = true then body_within f0.Group (-32:Int) (32:Int) else some default)
 fun r299 =>
 Let (bif x298 then r299 else false) fun x300 =>
 Let (!x295) fun x301 =>
 Let (!x300) fun x302 =>
 Let (bif x301 then true else x302) fun x303 => if x303 = true then some (6:Int) else some (0:Int)
def body_moving (b0 : Body) : Option Bool :=
 Let (!(decide (b0.Velocity.X = (0:Int)) && decide (b0.Velocity.Y = (0:Int)))) fun x304 =>
 Let (b0.AngularVelocity != (0:Int)) fun x305 =>
 Let (bif x304 then true else x305) fun x306 => some x306
def body_consistent (b0 : Body) : Option Bool :=
 Let (!(decide (b0.Force.X = (0:Int)) && decide (b0.Force.Y = (0:Int)))) fun x307 =>
 Let (b0.Torque != (0:Int)) fun x308 =>
 Let (bif x307 then true else x308) fun x309 =>
 Let (b0.Kind == (1:Int)) fun x310 =>
 Rx.Bind (if (x310 == true) = true then body_moving b0 else some default) fun r311 =>
 Let (bif r311 then true else x309) fun x312 =>
 Let (bif x310 then x312 else false) fun x313 =>
 if x313 = true then some false
 else
 Let (b0.Kind != (3:Int)) fun x314 =>
 Let (bif b0.Asleep then true else b0.Bullet) fun x315 =>
 Let (bif x314 then x315 else false) fun x316 =>
 if x316 = true then some false
 else
 Let (!b0.Asleep) fun x317 =>
 Rx.Bind (if (x317 == false) = true then body_moving b0 else some default) fun r318 =>
 Let (!r318) fun x319 => Let (bif x317 then true else x319) fun x320 => some x320
def body_Validate (b0 : Body) : Option Int :=
 Let (b0.Kind != (1:Int)) fun x321 =>
 Let (b0.Kind != (2:Int)) fun x322 =>
 Let (bif x321 then x322 else false) fun x323 =>
 Let (b0.Kind != (3:Int)) fun x324 =>
 Let (bif x323 then x324 else false) fun x325 =>
 if x325 = true then some (10:Int)
 else
 Rx.Bind (body_inRange b0) fun r326 =>
 Let (!r326) fun x327 =>
 if x327 = true then some (6:Int)
 else
 Let (↑b0.Fixtures.length : Int) fun x328 =>
 Let (decide (x328 > (4:Int))) fun x329 =>
 if x329 = true then some (11:Int)
 else
 Let (↑b0.Fixtures.length : Int) fun x330 =>
 LOOP
 (fun (rec331 : Int → Option Int) (s332 : Int) =>
 Let (decide (s332 < x330)) fun x333 =>
 if x333 = true then
 Chk ((0:Int) ≤ s332 ∧ s332 < (↑b0.Fixtures.length : Int))
 (Let (ix b0.Fixtures s332) fun x334 =>
 Rx.Bind (body_ValidateFixture x334) fun r335 =>
 Let (r335 != (0:Int)) fun x336 =>
 if x336 = true then some (13:Int) else Let (IntKind.i64.wrap (s332 + (1:Int))) fun x337 => rec331 x337)
 else
 Rx.Bind (body_consistent b0) fun r338 =>
 Let (!r338) fun x339 => if x339 = true then some (14:Int) else some (0:Int))
 fuel (0:Int)
def world_validBodies (w0 : World_) : Option Bool :=
 Let (↑w0.Bodies.length : Int) fun x340 =>
 LOOP
 (fun (rec341 : Int × Int → Option Bool) (s342 : Int × Int) =>
 Let (decide (s342.snd < x340)) fun x343 =>
 if x343 = true then
 Chk ((0:Int) ≤ s342.snd ∧ s342.snd < (↑w0.Bodies.length : Int))
 (Let (ix w0.Bodies s342.snd) fun x344 =>
 Rx.Bind (body_Validate x344) fun r345 =>
 Let (r345 != (0:Int)) fun x346 =>
 Let (decide (x344.ID ≥ w0.NextID)) fun x347 =>
 Let (bif x346 then true else x347) fun x348 =>
 Let (decide (x344.ID ≤ s342.fst)) fun x349 =>
 Let (bif x348 then true else x349) fun x350 =>
 if x350 = true then some false
 else Let (IntKind.i64.wrap (s342.snd + (1:Int))) fun x351 => rec341 (x344.ID, x351))
 else some true)
 fuel ((0:Int), (0:Int))
def joint_limitRange (k0 : Int) : Option (Int × Int) :=
 Let (k0 == (1:Int)) fun x352 =>
 if x352 = true then some ((0:Int), (268435456:Int))
 else
 Let (k0 == (2:Int)) fun x353 =>
 if x353 = true then some ((-205888:Int), (205888:Int)) else some ((-268435456:Int), (268435456:Int))
def joint_inRange (n0 : Int) (low1 : Int) (high2 : Int) : Option Bool :=
 Let (decide (n0 ≥ low1)) fun x354 =>
 Let (decide (n0 ≤ high2)) fun x355 => Let (bif x354 then x355 else false) fun x356 => some x356
def joint_pointInRange (v0 : Vec) (limit1 : Int) : Option Bool :=
 Let (IntKind.i64.wrap ((0:Int) - limit1)) fun x357 =>
 Rx.Bind (joint_inRange v0.X x357 limit1) fun r358 =>
 Let (IntKind.i64.wrap ((0:Int) - limit1)) fun x359 =>
 Rx.Bind (if (r358 == true) = true then joint_inRange v0.Y x359 limit1 else some default) fun r360 =>
 Let (bif r358 then r360 else false) fun x361 => some x361
def joint_numbersInRange (j0 : Joint) : Option Bool :=
 Join
 (fun (v362 : Int) =>
 Rx.Bind (joint_limitRange j0.Kind) fun r363 =>
 LOOP
 (fun (rec364 : Int → Option Bool) (s365 : Int) =>
 Let (decide (s365 < (4:Int))) fun x366 =>
 if x366 = true then
 Chk ((0:Int) ≤ s365 ∧ s365 < (↑(4:Nat) : Int))
 (Let (ix [j0.Impulses.fst, j0.Impulses.snd.fst, j0.Impulses.snd.snd.fst, j0.Impulses.snd.snd.snd] s365)
 fun x367 =>
 Rx.Bind (joint_inRange x367 (-536870911:Int) (536870911:Int)) fun r368 =>
 Let (!r368) fun x369 =>
 if x369 = true then some false else Let (IntKind.i64.wrap (s365 + (1:Int))) fun x370 => rec364 x370)
 else
 Rx.Bind (joint_inRange j0.ID (1:Int) (1099511627776:Int)) fun r371 =>
 Rx.Bind (if (r371 == true) = true then joint_pointInRange j0.AnchorA v362 else some default) fun r372 =>
 Let (bif r371 then r372 else false) fun x373 =>
 Rx.Bind (if (x373 == true) = true then joint_pointInRange j0.AnchorB (1048576:Int) else some default)
 fun r374 =>
 Let (bif x373 then r374 else false) fun x375 =>
 Rx.Bind (if (x375 == true) = true then joint_inRange j0.ReferenceAngle (-205888:Int) (205887:Int) else some default)
 fun r376 =>
 Let (bif x375 then r376 else false) fun x377 =>
 Rx.Bind (if (x377 == true) = true then joint_inRange j0.Lower r363.fst r363.snd else some default) fun r378 =>
 Let (bif x377 then r378 else false) fun x379 =>
 Rx.Bind (if (x379 == true) = true then joint_inRange j0.Upper r363.fst r363.snd else some default) fun r380 =>
 Let (bif x379 then r380 else false) fun x381 =>
 Let (decide (j0.Lower ≤ j0.Upper)) fun x382 =>
 Let (bif x381 then x382 else false) fun x383 =>
 Rx.Bind (if (x383 == true) = true then joint_inRange j0.MotorSpeed (-16777216:Int) (16777216:Int) else some default)
 fun r384 =>
 Let (bif x383 then r384 else false) fun x385 =>
 Rx.Bind (if (x385 == true) = true then joint_inRange j0.MaxForce (0:Int) (536870911:Int) else some default)
 fun r386 =>
 Let (bif x385 then r386 else false) fun x387 =>
 Rx.Bind (if (x387 == true) = true then joint_inRange j0.Softness (0:Int) (536870911:Int) else some default)
 fun r388 =>
 Let (bif x387 then r388 else false) fun x389 =>
 Rx.Bind (if (x389 == true) = true then joint_inRange j0.BreakForce (0:Int) (536870911:Int) else some default)
 fun r390 => Let (bif x389 then r390 else false) fun x391 => some x391)
 fuel (0:Int))
 fun (j392 : Int → Option Bool) =>
 Let (j0.Kind == (5:Int)) fun x393 => if x393 = true then j392 (268435456:Int) else j392 (1048576:Int)
def joint_validBodies (j0 : Joint) : Option Bool :=
 Let (j0.Kind == (5:Int)) fun x394 =>
 if x394 = true then
 Let (j0.BodyA == (0:Int)) fun x395 =>
 Rx.Bind (if (x395 == true) = true then joint_inRange j0.BodyB (1:Int) (1099511627776:Int) else some default)
 fun r396 => Let (bif x395 then r396 else false) fun x397 => some x397
 else
 Rx.Bind (joint_inRange j0.BodyA (1:Int) (1099511627776:Int)) fun r398 =>
 Rx.Bind (if (r398 == true) = true then joint_inRange j0.BodyB (1:Int) (1099511627776:Int) else some default)
 fun r399 =>
 Let (bif r398 then r399 else false) fun x400 =>
 Let (j0.BodyA != j0.BodyB) fun x401 => Let (bif x400 then x401 else false) fun x402 => some x402
def joint_inconsistent (j0 : Joint) : Option Bool :=
 Let (decide (j0.Axis.X = (0:Int)) && decide (j0.Axis.Y = (0:Int))) fun x403 =>
 Join
 (fun (v404 : PUnit) =>
 Let (!x403) fun x405 =>
 Let (bif x405 then true else j0.EnableMotor) fun x406 =>
 Let (bif x406 then true else j0.EnableLimit) fun x407 => some x407)
 fun (j408 : PUnit → Option Bool) =>
 Let (j0.Kind == (3:Int)) fun x409 =>
 if x409 = true then
 Rx.Bind (vec2_Length j0.Axis) fun r410 =>
 Rx.Bind (joint_inRange r410 (65520:Int) (65552:Int)) fun r411 => Let (!r411) fun x412 => some x412
 else
 Let (j0.Kind == (1:Int)) fun x413 =>
 if x413 = true then
 Let (!x403) fun x414 =>
 Let (bif x414 then true else j0.EnableMotor) fun x415 =>
 Let (!j0.EnableLimit) fun x416 => Let (bif x415 then true else x416) fun x417 => some x417
 else
 Let (j0.Kind == (4:Int)) fun x418 =>
 if x418 = true then j408 ()
 else
 Let (j0.Kind == (5:Int)) fun x419 =>
 if x419 = true then j408 () else Let (!x403) fun x420 => some x420
def joint_Validate (j0 : Joint) : Option Int :=
 Let (decide (j0.Kind < (1:Int))) fun x421 =>
 Let (decide (j0.Kind > (5:Int))) fun x422 =>
 Let (bif x421 then true else x422) fun x423 =>
 if x423 = true then some (10:Int)
 else
 Rx.Bind (joint_numbersInRange j0) fun r424 =>
 Let (!r424) fun x425 =>
 if x425 = true then some (6:Int)
 else
 Rx.Bind (joint_validBodies j0) fun r426 =>
 Let (!r426) fun x427 =>
 if x427 = true then some (14:Int)
 else Rx.Bind (joint_inconsistent j0) fun r428 => if r428 = true then some (15:Int) else some (0:Int)
def world_FindBody_1 (b0 : Body) (p1 : Int) : Option Bool :=
 Let (b0.ID == p1) fun x429 => some x429
def slices_IndexFunc (s0 : (List Body)) (f1 : (Body → Option Bool)) : Option Int :=
 Let (↑s0.length : Int) fun x430 =>
 LOOP
 (fun (rec431 : Int → Option Int) (s432 : Int) =>
 Let (decide (s432 < x430)) fun x433 =>
 if x433 = true then
 Chk ((0:Int) ≤ s432 ∧ s432 < (↑s0.length : Int))
 (Let (ix s0 s432) fun x434 =>
 Rx.Bind (f1 x434) fun r435 =>
 if r435 = true then some s432 else Let (IntKind.i64.wrap (s432 + (1:Int))) fun x436 => rec431 x436)
 else some (-1:Int))
 fuel (0:Int)
def world_FindBody (w0 : World_) (id1 : Int) : Option Int :=
 Rx.Bind (slices_IndexFunc w0.Bodies fun (a : Tup tb [Ix.tBody]) => world_FindBody_1 a id1) fun r437 => some r437
def world_bodiesExist (w0 : World_) (j1 : Joint) : Option Bool :=
 Rx.Bind (world_FindBody w0 j1.BodyB) fun r438 =>
 Let (decide (r438 ≥ (0:Int))) fun x439 =>
 Let (j1.Kind == (5:Int)) fun x440 =>
 Rx.Bind (if (x439 == true && x440 == false) = true then world_FindBody w0 j1.BodyA else some default)
 fun r441 =>
 Let (decide (r441 ≥ (0:Int))) fun x442 =>
 Let (bif x440 then true else x442) fun x443 =>
 Let (bif x439 then x443 else false) fun x444 => some x444
def world_validJoints (w0 : World_) : Option Bool :=
 Let (↑w0.Joints.length : Int) fun x445 =>
 LOOP
 (fun (rec446 : Int × Int → Option Bool) (s447 : Int × Int) =>
 Let (decide (s447.snd < x445)) fun x448 =>
 if x448 = true then
 Chk ((0:Int) ≤ s447.snd ∧ s447.snd < (↑w0.Joints.length : Int))
 (Let (ix w0.Joints s447.snd) fun x449 =>
 Rx.Bind (joint_Validate x449) fun r450 =>
 Let (r450 != (0:Int)) fun x451 =>
 Let (decide (x449.ID ≥ w0.NextID)) fun x452 =>
 Let (bif x451 then true else x452) fun x453 =>
 Let (decide (x449.ID ≤ s447.fst)) fun x454 =>
 Let (bif x453 then true else x454) fun x455 =>
 Rx.Bind (if (x455 == false) = true then world_bodiesExist w0 x449 else some default) fun r456 =>
 Let (!r456) fun x457 =>
 Let (bif x455 then true else x457) fun x458 =>
 Rx.Bind (if (x458 == false) = true then world_FindBody w0 x449.ID else some default) fun r459 =>
 Let (decide (r459 ≥ (0:Int))) fun x460 =>
 Let (bif x458 then true else x460) fun x461 =>
 if x461 = true then some false
 else Let (IntKind.i64.wrap (s447.snd + (1:Int))) fun x462 => rec446 (x449.ID, x462))
 else some true)
 fuel ((0:Int), (0:Int))
def slices_IndexFunc_236 (s0 : (List Int)) (f1 : (Int → Option Bool)) : Option Int :=
 Let (↑s0.length : Int) fun x463 =>
 LOOP
 (fun (rec464 : Int → Option Int) (s465 : Int) =>
 Let (decide (s465 < x463)) fun x466 =>
 if x466 = true then
 Chk ((0:Int) ≤ s465 ∧ s465 < (↑s0.length : Int))
 (Let (ix s0 s465) fun x467 =>
 Rx.Bind (f1 x467) fun r468 =>
 if r468 = true then some s465 else Let (IntKind.i64.wrap (s465 + (1:Int))) fun x469 => rec464 x469)
 else some (-1:Int))
 fuel (0:Int)
def slices_ContainsFunc_203 (s0 : (List Int)) (f1 : (Int → Option Bool)) : Option Bool :=
 Rx.Bind (slices_IndexFunc_236 s0 f1) fun r470 => Let (decide (r470 ≥ (0:Int))) fun x471 => some x471
def world_saturated_1 (n0 : Int) : Option Bool :=
 Rx.Bind (world_in n0 (-536870911:Int) (536870911:Int)) fun r472 =>
 Let (!r472) fun x473 => some x473
def world_saturated (values0 : (List Int)) : Option Bool :=
 Rx.Bind (slices_ContainsFunc_203 values0 fun (a : Tup tb [Ix.tint]) => world_saturated_1 a) fun r474 =>
 Let (!r474) fun x475 => some x475
def slices_IndexFunc_205 (s0 : (List ContactPoint)) (f1 : (ContactPoint → Option Bool)) : Option Int :=
 Let (↑s0.length : Int) fun x476 =>
 LOOP
 (fun (rec477 : Int → Option Int) (s478 : Int) =>
 Let (decide (s478 < x476)) fun x479 =>
 if x479 = true then
 Chk ((0:Int) ≤ s478 ∧ s478 < (↑s0.length : Int))
 (Let (ix s0 s478) fun x480 =>
 Rx.Bind (f1 x480) fun r481 =>
 if r481 = true then some s478 else Let (IntKind.i64.wrap (s478 + (1:Int))) fun x482 => rec477 x482)
 else some (-1:Int))
 fuel (0:Int)
def slices_ContainsFunc_161 (s0 : (List ContactPoint)) (f1 : (ContactPoint → Option Bool)) : Option Bool :=
 Rx.Bind (slices_IndexFunc_205 s0 f1) fun r483 => Let (decide (r483 ≥ (0:Int))) fun x484 => some x484
def world_validManifold_1 (p0 : ContactPoint) : Option Bool :=
 Let (decide (p0.NormalImpulse < (0:Int))) fun x485 =>
 Rx.Bind
 (if (x485 == false) = true then
 world_saturated [p0.Point.X, p0.Point.Y, p0.Separation, p0.ID, p0.NormalImpulse, p0.TangentImpulse]
 else some default)
 fun r486 => Let (!r486) fun x487 => Let (bif x485 then true else x487) fun x488 => some x488
def world_validManifold (m0 : Manifold) : Option Bool :=
 Let (↑m0.Points.length : Int) fun x489 =>
 Let (decide (x489 < (1:Int))) fun x490 =>
 Let (decide (x489 > (2:Int))) fun x491 =>
 Let (bif x490 then true else x491) fun x492 =>
 Let (x489 == (2:Int)) fun x493 =>
 Chk ((x492 == false && x493 == true) = true → (0:Int) ≤ (0:Int) ∧ (0:Int) < (↑m0.Points.length : Int))
 (Let (ix m0.Points (0:Int)) fun x494 =>
 Chk ((x492 == false && x493 == true) = true → (0:Int) ≤ (1:Int) ∧ (1:Int) < (↑m0.Points.length : Int))
 (Let (ix m0.Points (1:Int)) fun x495 =>
 Let (x494.ID == x495.ID) fun x496 =>
 Let (bif x493 then x496 else false) fun x497 =>
 Let (bif x492 then true else x497) fun x498 =>
 Rx.Bind (if (x498 == false) = true then world_saturated [m0.Normal.X, m0.Normal.Y] else some default)
 fun r499 =>
 Let (!r499) fun x500 =>
 Let (bif x498 then true else x500) fun x501 =>
 if x501 = true then some false
 else
 Rx.Bind (slices_ContainsFunc_161 m0.Points fun (a : Tup tb [Ix.tContactPoint]) => world_validManifold_1 a)
 fun r502 => Let (!r502) fun x503 => some x503))
def broadphase_valid (k0 : PairKey) : Option Bool :=
 Let (decide (k0.BodyA < k0.BodyB)) fun x504 =>
 Let (decide (k0.FixtureA ≥ (0:Int))) fun x505 =>
 Let (bif x504 then x505 else false) fun x506 =>
 Let (decide (k0.FixtureA < (4:Int))) fun x507 =>
 Let (bif x506 then x507 else false) fun x508 =>
 Let (decide (k0.FixtureB ≥ (0:Int))) fun x509 =>
 Let (bif x508 then x509 else false) fun x510 =>
 Let (decide (k0.FixtureB < (4:Int))) fun x511 =>
 Let (bif x510 then x511 else false) fun x512 => some x512
def cmp_isNaN (x0 : Int) : Option Bool :=
 Let (x0 != x0) fun x513 => some x513
def cmp_Compare (x0 : Int) (y1 : Int) : Option Int :=
 Rx.Bind (cmp_isNaN x0) fun r514 =>
 Rx.Bind (cmp_isNaN y1) fun r515 =>
 if r514 = true then if r515 = true then some (0:Int) else some (-1:Int)
 else
 if r515 = true then some (1:Int)
 else
 Let (decide (x0 < y1)) fun x516 =>
 if x516 = true then some (-1:Int)
 else Let (decide (x0 > y1)) fun x517 => if x517 = true then some (1:Int) else some (0:Int)
def cmp_Or (vals0 : (List Int)) : Option Int :=
 Let (↑vals0.length : Int) fun x518 =>
 LOOP
 (fun (rec519 : Int → Option Int) (s520 : Int) =>
 Let (decide (s520 < x518)) fun x521 =>
 if x521 = true then
 Chk ((0:Int) ≤ s520 ∧ s520 < (↑vals0.length : Int))
 (Let (ix vals0 s520) fun x522 =>
 Let (x522 != (0:Int)) fun x523 =>
 if x523 = true then some x522 else Let (IntKind.i64.wrap (s520 + (1:Int))) fun x524 => rec519 x524)
 else some (0:Int))
 fuel (0:Int)
def broadphase_compare (a0 : PairKey) (b1 : PairKey) : Option Int :=
 Rx.Bind (cmp_Compare a0.BodyA b1.BodyA) fun r525 =>
 Rx.Bind (cmp_Compare a0.FixtureA b1.FixtureA) fun r526 =>
 Rx.Bind (cmp_Compare a0.BodyB b1.BodyB) fun r527 =>
 Rx.Bind (cmp_Compare a0.FixtureB b1.FixtureB) fun r528 =>
 Rx.Bind (cmp_Or [r525, r526, r527, r528]) fun r529 => some r529
def broadphase_Less (a0 : PairKey) (b1 : PairKey) : Option Bool :=
 Rx.Bind (broadphase_compare a0 b1) fun r530 => Let (decide (r530 < (0:Int))) fun x531 => some x531
def broadphase_ValidKeys (keys0 : (List PairKey)) : Option Bool :=
 Let (↑keys0.length : Int) fun x532 =>
 LOOP
 (fun (rec533 : Int × PairKey → Option Bool) (s534 : Int × PairKey) =>
 Let (decide (s534.fst < x532)) fun x535 =>
 if x535 = true then
 Chk ((0:Int) ≤ s534.fst ∧ s534.fst < (↑keys0.length : Int))
 (Let (ix keys0 s534.fst) fun x536 =>
 Rx.Bind (broadphase_valid x536) fun r537 =>
 Let (!r537) fun x538 =>
 Let (decide (s534.fst > (0:Int))) fun x539 =>
 Let
 (decide (x536.BodyA = s534.snd.BodyA) &&
 (decide (x536.FixtureA = s534.snd.FixtureA) &&
 (decide (x536.BodyB = s534.snd.BodyB) && decide (x536.FixtureB = s534.snd.FixtureB))))
 fun x540 =>
 Rx.Bind
 (if (x538 == false && x539 == true && x540 == false) = true then broadphase_Less s534.snd x536 else some default)
 fun r541 =>
 Let (!r541) fun x542 =>
 Let (bif x540 then true else x542) fun x543 =>
 Let (bif x539 then x543 else false) fun x544 =>
 Let (bif x538 then true else x544) fun x545 =>
 if x545 = true then some false
 else Let (IntKind.i64.wrap (s534.fst + (1:Int))) fun x546 => rec533 (x546, x536))
 else some true)
 fuel ((0:Int), {BodyA:=(0:Int), FixtureA:=(0:Int), BodyB:=(0:Int), FixtureB:=(0:Int):PairKey})
def slices_Concat (slices0 : (List (List PairKey))) : Option (List PairKey) :=
 Let (↑slices0.length : Int) fun x547 =>
 LOOP
 (fun (rec548 : Int × Int → Option (List PairKey)) (s549 : Int × Int) =>
 Let (decide (s549.snd < x547)) fun x550 =>
 if x550 = true then
 Chk ((0:Int) ≤ s549.snd ∧ s549.snd < (↑slices0.length : Int))
 (Let (ix slices0 s549.snd) fun x551 =>
 Let (↑x551.length : Int) fun x552 =>
 Let (IntKind.i64.wrap (s549.fst + x552)) fun x553 =>
 Let (decide (x553 < (0:Int))) fun x554 =>
 if x554 = true then none else Let (IntKind.i64.wrap (s549.snd + (1:Int))) fun x555 => rec548 (x553, x555))
 else
 Let (decide (s549.fst < (0:Int))) fun x556 =>
 if x556 = true then none
 else
 Join
 (fun (v557 : List PairKey) =>
 Let (↑slices0.length : Int) fun x558 =>
 LOOP
 (fun (rec559 : List PairKey × Int → Option (List PairKey)) (s560 : List PairKey × Int) =>
 Let (decide (s560.snd < x558)) fun x561 =>
 if x561 = true then
 Chk ((0:Int) ≤ s560.snd ∧ s560.snd < (↑slices0.length : Int))
 (Let (ix slices0 s560.snd) fun x562 =>
 Chk ((List.length s560.fst + x562.length) * (32:Nat) ≤ (140737488355328:Nat))
 (Let (s560.fst ++ x562) fun x563 =>
 Let (IntKind.i64.wrap (s560.snd + (1:Int))) fun x564 => rec559 (x563, x564)))
 else some s560.fst)
 fuel (v557, (0:Int)))
 fun (j565 : List PairKey → Option (List PairKey)) =>
 Let (IntKind.i64.wrap ((0:Int) - (0:Int))) fun x566 =>
 Let (IntKind.i64.wrap (s549.fst - x566)) fun x567 =>
 Let (decide (x567 > (0:Int))) fun x568 =>
 if x568 = true then
 Chk ((0:Int) = (0:Int))
 (Chk ((0:Int) < x567 ∧ x567.toNat * (32:Nat) ≤ (140737488355328:Nat) ∧ x567 ≤ (9223372036854775807:Int))
 (Let
 (List.replicate x567.toNat
 {BodyA:=(0:Int), FixtureA:=(0:Int), BodyB:=(0:Int), FixtureB:=(0:Int):PairKey})
 fun x569 =>
 Chk
 ((0:Int) ≤ none.getD (0:Int) ∧
 (0:Int) ≤ (some (0:Int)).getD (0:Int) ∧ (0:Nat) ≤ Int.toNat (0:Int) ∧ Int.toNat (0:Int) ≤ x569.length)
 (Chk (Int.toNat (0:Int) - (0:Nat) ≤ x569.length)
 (Let (List.take (Int.toNat (0:Int) - (0:Nat)) x569) fun x570 => j565 x570))))
 else j565 [])
 fuel ((0:Int), (0:Int))
def world_fixturesExist (w0 : World_) (k1 : PairKey) : Option Bool :=
 Rx.Bind (world_FindBody w0 k1.BodyA) fun r571 =>
 Rx.Bind (world_FindBody w0 k1.BodyB) fun r572 =>
 Let (decide (r571 ≥ (0:Int))) fun x573 =>
 Let (decide (r572 ≥ (0:Int))) fun x574 =>
 Let (bif x573 then x574 else false) fun x575 =>
 Chk ((x575 == true) = true → (0:Int) ≤ r571 ∧ r571 < (↑w0.Bodies.length : Int))
 (Let (ix w0.Bodies r571) fun x576 =>
 Let (↑x576.Fixtures.length : Int) fun x577 =>
 Let (decide (k1.FixtureA < x577)) fun x578 =>
 Let (bif x575 then x578 else false) fun x579 =>
 Chk ((x579 == true) = true → (0:Int) ≤ r572 ∧ r572 < (↑w0.Bodies.length : Int))
 (Let (ix w0.Bodies r572) fun x580 =>
 Let (↑x580.Fixtures.length : Int) fun x581 =>
 Let (decide (k1.FixtureB < x581)) fun x582 =>
 Let (bif x579 then x582 else false) fun x583 => some x583))
def world_validContacts_1 (k0 : PairKey) (p1 : World_) : Option Bool :=
 Rx.Bind (world_fixturesExist p1 k0) fun r584 => Let (!r584) fun x585 => some x585
def slices_IndexFunc_130 (s0 : (List PairKey)) (f1 : (PairKey → Option Bool)) : Option Int :=
 Let (↑s0.length : Int) fun x586 =>
 LOOP
 (fun (rec587 : Int → Option Int) (s588 : Int) =>
 Let (decide (s588 < x586)) fun x589 =>
 if x589 = true then
 Chk ((0:Int) ≤ s588 ∧ s588 < (↑s0.length : Int))
 (Let (ix s0 s588) fun x590 =>
 Rx.Bind (f1 x590) fun r591 =>
 if r591 = true then some s588 else Let (IntKind.i64.wrap (s588 + (1:Int))) fun x592 => rec587 x592)
 else some (-1:Int))
 fuel (0:Int)
def slices_ContainsFunc (s0 : (List PairKey)) (f1 : (PairKey → Option Bool)) : Option Bool :=
 Rx.Bind (slices_IndexFunc_130 s0 f1) fun r593 => Let (decide (r593 ≥ (0:Int))) fun x594 => some x594
def world_validContacts (w0 : World_) : Option Bool :=
 Let (↑w0.Contacts.length : Int) fun x595 =>
 LOOP
 (fun (rec596 : List PairKey × Int → Option Bool) (s597 : List PairKey × Int) =>
 Let (decide (s597.snd < x595)) fun x598 =>
 if x598 = true then
 Chk ((0:Int) ≤ s597.snd ∧ s597.snd < (↑w0.Contacts.length : Int))
 (Let (ix w0.Contacts s597.snd) fun x599 =>
 Rx.Bind (world_validManifold x599.Manifold) fun r600 =>
 Let (!r600) fun x601 =>
 if x601 = true then some false
 else
 Chk ((List.length s597.fst + [x599.Key].length) * (32:Nat) ≤ (140737488355328:Nat))
 (Let (s597.fst ++ [x599.Key]) fun x602 =>
 Let (IntKind.i64.wrap (s597.snd + (1:Int))) fun x603 => rec596 (x602, x603)))
 else
 Rx.Bind (broadphase_ValidKeys s597.fst) fun r604 =>
 Let (!r604) fun x605 =>
 Rx.Bind (if (x605 == false) = true then broadphase_ValidKeys w0.Overlaps else some default) fun r606 =>
 Let (!r606) fun x607 =>
 Let (bif x605 then true else x607) fun x608 =>
 if x608 = true then some false
 else
 Rx.Bind (slices_Concat [s597.fst, w0.Overlaps]) fun r609 =>
 Rx.Bind (slices_ContainsFunc r609 fun (a : Tup tb [Ix.tPairKey]) => world_validContacts_1 a w0) fun r610 =>
 Let (!r610) fun x611 => some x611)
 fuel ([], (0:Int))
def world_Validate (w0 : World_) : Option Int :=
 Rx.Bind (world_ValidateSettings w0.Settings) fun r612 =>
 Let (r612 != (0:Int)) fun x613 =>
 if x613 = true then some (17:Int)
 else
 Let (↑w0.Bodies.length : Int) fun x614 =>
 Let (decide (x614 > (32:Int))) fun x615 =>
 Let (↑w0.Joints.length : Int) fun x616 =>
 Let (decide (x616 > (32:Int))) fun x617 =>
 Let (bif x615 then true else x617) fun x618 =>
 Let (↑w0.Contacts.length : Int) fun x619 =>
 Let (decide (x619 > (8192:Int))) fun x620 =>
 Let (bif x618 then true else x620) fun x621 =>
 Let (↑w0.Overlaps.length : Int) fun x622 =>
 Let (decide (x622 > (8192:Int))) fun x623 =>
 Let (bif x621 then true else x623) fun x624 =>
 if x624 = true then some (11:Int)
 else
 Rx.Bind (world_in w0.NextID (1:Int) (1099511627776:Int)) fun r625 =>
 Let (!r625) fun x626 =>
 Rx.Bind (if (x626 == false) = true then world_in w0.Frame (0:Int) (1099511627776:Int) else some default)
 fun r627 =>
 Let (!r627) fun x628 =>
 Let (bif x626 then true else x628) fun x629 =>
 if x629 = true then some (6:Int)
 else
 Rx.Bind (world_validBodies w0) fun r630 =>
 Let (!r630) fun x631 =>
 if x631 = true then some (14:Int)
 else
 Rx.Bind (world_validJoints w0) fun r632 =>
 Let (!r632) fun x633 =>
 if x633 = true then some (15:Int)
 else
 Rx.Bind (world_validContacts w0) fun r634 =>
 Let (!r634) fun x635 => if x635 = true then some (16:Int) else some (0:Int)
def input_UsedFields (k0 : Int) : Option (Bool × Bool × Bool) :=
 Join
 (fun (v636 : Bool) =>
 if v636 = true then some (true, true, false)
 else
 Join
 (fun (v637 : Bool) =>
 if v637 = true then some (true, false, true)
 else
 Join
 (fun (v638 : Bool) =>
 if v638 = true then some (true, true, true)
 else
 Join (fun (v639 : Bool) => if v639 = true then some (true, false, false) else some (false, false, false))
 fun (j640 : Bool → Option (Bool × Bool × Bool)) =>
 Let (k0 == (6:Int)) fun x641 =>
 if x641 = true then j640 x641
 else
 Let (k0 == (10:Int)) fun x642 =>
 if x642 = true then j640 x642 else Let (k0 == (12:Int)) fun x643 => j640 x643)
 fun (j644 : Bool → Option (Bool × Bool × Bool)) =>
 Let (k0 == (4:Int)) fun x645 =>
 if x645 = true then j644 x645 else Let (k0 == (5:Int)) fun x646 => j644 x646)
 fun (j647 : Bool → Option (Bool × Bool × Bool)) =>
 Let (k0 == (3:Int)) fun x648 =>
 if x648 = true then j647 x648 else Let (k0 == (8:Int)) fun x649 => j647 x649)
 fun (j650 : Bool → Option (Bool × Bool × Bool)) =>
 Let (k0 == (1:Int)) fun x651 =>
 if x651 = true then j650 x651
 else
 Let (k0 == (2:Int)) fun x652 =>
 if x652 = true then j650 x652 else Let (k0 == (7:Int)) fun x653 => j650 x653
def input_isSaturated (n0 : Int) : Option Bool :=
 Let (decide (n0 ≥ (-536870911:Int))) fun x654 =>
 Let (decide (n0 ≤ (536870911:Int))) fun x655 =>
 Let (bif x654 then x655 else false) fun x656 => some x656
def slices_Equal_166 (s10 : (List Vec)) (s21 : (List Vec)) : Option Bool :=
 Let (↑s10.length : Int) fun x657 =>
 Let (↑s21.length : Int) fun x658 =>
 Let (x657 != x658) fun x659 =>
 if x659 = true then some false
 else
 Let (↑s10.length : Int) fun x660 =>
 LOOP
 (fun (rec661 : Int → Option Bool) (s662 : Int) =>
 Let (decide (s662 < x660)) fun x663 =>
 if x663 = true then
 Chk ((0:Int) ≤ s662 ∧ s662 < (↑s10.length : Int))
 (Let (ix s10 s662) fun x664 =>
 Chk ((0:Int) ≤ s662 ∧ s662 < (↑s21.length : Int))
 (Let (ix s21 s662) fun x665 =>
 Let (!(decide (x664.X = x665.X) && decide (x664.Y = x665.Y))) fun x666 =>
 if x666 = true then some false else Let (IntKind.i64.wrap (s662 + (1:Int))) fun x667 => rec661 x667))
 else some true)
 fuel (0:Int)
def shape_Equal (a0 : Shape) (b1 : Shape) : Option Bool :=
 Let (a0.Kind == b1.Kind) fun x668 =>
 Let (a0.Radius == b1.Radius) fun x669 =>
 Let (bif x668 then x669 else false) fun x670 =>
 Rx.Bind (if (x670 == true) = true then slices_Equal_166 a0.Vertices b1.Vertices else some default) fun r671 =>
 Let (bif x670 then r671 else false) fun x672 => some x672
def body_equalFixtures (a0 : Fixture) (b1 : Fixture) : Option Bool :=
 Let (a0.Density == b1.Density) fun x673 =>
 Let (a0.Friction == b1.Friction) fun x674 =>
 Let (bif x673 then x674 else false) fun x675 =>
 Let (a0.Restitution == b1.Restitution) fun x676 =>
 Let (bif x675 then x676 else false) fun x677 =>
 Let (a0.Sensor == b1.Sensor) fun x678 =>
 Let (a0.Category == b1.Category) fun x679 =>
 Let (bif x678 then x679 else false) fun x680 =>
 Let (a0.Mask == b1.Mask) fun x681 =>
 Let (bif x680 then x681 else false) fun x682 =>
 Let (a0.Group == b1.Group) fun x683 =>
 Let (bif x682 then x683 else false) fun x684 =>
 Rx.Bind (shape_Equal a0.Shape b1.Shape) fun r685 =>
 Let (bif r685 then x677 else false) fun x686 =>
 Let (bif x686 then x684 else false) fun x687 => some x687
def body_Equal (a0 : Body) (b1 : Body) : Option Bool :=
 Let (↑a0.Fixtures.length : Int) fun x688 =>
 Let (↑b1.Fixtures.length : Int) fun x689 =>
 Let (x688 != x689) fun x690 =>
 if x690 = true then some false
 else
 Let (↑a0.Fixtures.length : Int) fun x691 =>
 LOOP
 (fun (rec692 : Int → Option Bool) (s693 : Int) =>
 Let (decide (s693 < x691)) fun x694 =>
 if x694 = true then
 Chk ((0:Int) ≤ s693 ∧ s693 < (↑a0.Fixtures.length : Int))
 (Let (ix a0.Fixtures s693) fun x695 =>
 Chk ((0:Int) ≤ s693 ∧ s693 < (↑b1.Fixtures.length : Int))
 (Let (ix b1.Fixtures s693) fun x696 =>
 Rx.Bind (body_equalFixtures x695 x696) fun r697 =>
 Let (!r697) fun x698 =>
 if x698 = true then some false else Let (IntKind.i64.wrap (s693 + (1:Int))) fun x699 => rec692 x699))
 else
 Let (a0.ID == b1.ID) fun x700 =>
 Let (a0.Kind == b1.Kind) fun x701 =>
 Let (bif x700 then x701 else false) fun x702 =>
 Let
 (decide (a0.Transform.Position.X = b1.Transform.Position.X) &&
 decide (a0.Transform.Position.Y = b1.Transform.Position.Y) &&
 decide (a0.Transform.Angle = b1.Transform.Angle))
 fun x703 =>
 Let (bif x702 then x703 else false) fun x704 =>
 Let (decide (a0.Velocity.X = b1.Velocity.X) && decide (a0.Velocity.Y = b1.Velocity.Y)) fun x705 =>
 Let (a0.AngularVelocity == b1.AngularVelocity) fun x706 =>
 Let (bif x705 then x706 else false) fun x707 =>
 Let (decide (a0.Force.X = b1.Force.X) && decide (a0.Force.Y = b1.Force.Y)) fun x708 =>
 Let (a0.Torque == b1.Torque) fun x709 =>
 Let (bif x708 then x709 else false) fun x710 =>
 Let (a0.LinearDamping == b1.LinearDamping) fun x711 =>
 Let (a0.AngularDamping == b1.AngularDamping) fun x712 =>
 Let (bif x711 then x712 else false) fun x713 =>
 Let (a0.GravityScale == b1.GravityScale) fun x714 =>
 Let (bif x713 then x714 else false) fun x715 =>
 Let (a0.Bullet == b1.Bullet) fun x716 =>
 Let (a0.FixedRotation == b1.FixedRotation) fun x717 =>
 Let (bif x716 then x717 else false) fun x718 =>
 Let (a0.NoSleep == b1.NoSleep) fun x719 =>
 Let (bif x718 then x719 else false) fun x720 =>
 Let (a0.Asleep == b1.Asleep) fun x721 =>
 Let (a0.IdleSteps == b1.IdleSteps) fun x722 =>
 Let (bif x721 then x722 else false) fun x723 =>
 Let (bif x704 then x707 else false) fun x724 =>
 Let (bif x724 then x710 else false) fun x725 =>
 Let (bif x725 then x715 else false) fun x726 =>
 Let (bif x726 then x720 else false) fun x727 =>
 Let (bif x727 then x723 else false) fun x728 => some x728)
 fuel (0:Int)
def input_Validate (x0 : Input) : Option Int :=
 Let (decide (x0.Kind < (1:Int))) fun x729 =>
 Let (decide (x0.Kind > (12:Int))) fun x730 =>
 Let (bif x729 then true else x730) fun x731 =>
 if x731 = true then some (10:Int)
 else
 Rx.Bind (input_UsedFields x0.Kind) fun r732 =>
 Join
 (fun (v733 : Bool) =>
 if v733 = true then some (6:Int)
 else
 Join (fun (v734 : Bool) => if v734 = true then some (3:Int) else some (0:Int)) fun (j735 : Bool → Option Int) =>
 Let (!r732.fst) fun x736 =>
 Let (x0.ID != (0:Int)) fun x737 =>
 Let (bif x736 then x737 else false) fun x738 =>
 if x738 = true then j735 x738
 else
 Let (!r732.snd.fst) fun x739 =>
 Let (!(decide (x0.Vec.X = (0:Int)) && decide (x0.Vec.Y = (0:Int)))) fun x740 =>
 Let (bif x739 then x740 else false) fun x741 =>
 if x741 = true then j735 x741
 else
 Let (!r732.snd.snd) fun x742 =>
 Let (x0.Value != (0:Int)) fun x743 =>
 Let (bif x742 then x743 else false) fun x744 =>
 if x744 = true then j735 x744
 else
 Let (x0.Kind != (9:Int)) fun x745 =>
 Rx.Bind
 (if (x745 == true) = true then
 body_Equal x0.Body
 {ID:=(0:Int), Kind:=(0:Int), Transform := {Position := {X:=(0:Int), Y:=(0:Int):Vec}, Angle:=(0:Int):Transform}, Velocity := {X:=(0:Int), Y:=(0:Int):Vec}, AngularVelocity:=(0:Int), Force := {X:=(0:Int), Y:=(0:Int):Vec}, Torque:=(0:Int), LinearDamping:=(0:Int), AngularDamping:=(0:Int), GravityScale:=(0:Int), Bullet:=false, FixedRotation:=false, NoSleep:=false, Asleep:=false, IdleSteps:=(0:Int), Fixtures:=[]:Body}
 else some default)
 fun r746 =>
 Let (!r746) fun x747 =>
 Let (bif x745 then x747 else false) fun x748 =>
 if x748 = true then j735 x748
 else
 Let (x0.Kind != (11:Int)) fun x749 =>
 Let
 (!(decide (x0.Joint.ID = (0:Int)) &&
 (decide (x0.Joint.Kind = (0:Int)) &&
 (decide (x0.Joint.BodyA = (0:Int)) &&
 (decide (x0.Joint.BodyB = (0:Int)) &&
 (decide (x0.Joint.AnchorA.X = (0:Int)) && decide (x0.Joint.AnchorA.Y = (0:Int)) &&
 (decide (x0.Joint.AnchorB.X = (0:Int)) && decide (x0.Joint.AnchorB.Y = (0:Int)) &&
 (decide (x0.Joint.Axis.X = (0:Int)) && decide (x0.Joint.Axis.Y = (0:Int)) &&
 (decide (x0.Joint.ReferenceAngle = (0:Int)) &&
 (decide (x0.Joint.EnableLimit = false) &&
 (decide (x0.Joint.Lower = (0:Int)) &&
 (decide (x0.Joint.Upper = (0:Int)) &&
 (decide (x0.Joint.EnableMotor = false) &&
 (decide (x0.Joint.MotorSpeed = (0:Int)) &&
 (decide (x0.Joint.MaxForce = (0:Int)) &&
 (decide (x0.Joint.Softness = (0:Int)) &&
 (decide (x0.Joint.BreakForce = (0:Int)) &&
 (decide (x0.Joint.CollideConnected = false) &&
 (decide (x0.Joint.Impulses.fst = (0:Int)) &&
 (decide (x0.Joint.Impulses.snd.fst = (0:Int)) &&
 (decide (x0.Joint.Impulses.snd.snd.fst = (0:Int)) &&
 decide (x0.Joint.Impulses.snd.snd.snd = (0:Int)))))))))))))))))))))))
 fun x750 => Let (bif x749 then x750 else false) fun x751 => j735 x751)
 fun (j752 : Bool → Option Int) =>
 Let (decide (x0.ID < (1:Int))) fun x753 =>
 Let (decide (x0.ID > (1099511627776:Int))) fun x754 =>
 Let (bif x753 then true else x754) fun x755 =>
 Let (bif r732.fst then x755 else false) fun x756 =>
 if x756 = true then j752 x756
 else
 Rx.Bind (if (r732.snd.fst == true) = true then input_isSaturated x0.Vec.X else some default) fun r757 =>
 Let (!r757) fun x758 =>
 Rx.Bind (if (r732.snd.fst == true && x758 == false) = true then input_isSaturated x0.Vec.Y else some default)
 fun r759 =>
 Let (!r759) fun x760 =>
 Let (bif x758 then true else x760) fun x761 =>
 Let (bif r732.snd.fst then x761 else false) fun x762 =>
 if x762 = true then j752 x762
 else
 Rx.Bind (if (r732.snd.snd == true) = true then input_isSaturated x0.Value else some default) fun r763 =>
 Let (!r763) fun x764 => Let (bif r732.snd.snd then x764 else false) fun x765 => j752 x765
def slices_Clone_158 (s0 : (List Vec)) : Option (List Vec) :=
 Rx.Alike (s0 = []) (some []) (Chk (s0.length * (16:Nat) ≤ (140737488355328:Nat)) (some s0))
def shape_Clone (s0 : Shape) : Option Shape :=
 Rx.Bind (slices_Clone_158 s0.Vertices) fun r766 =>
 some {Kind := s0.Kind, Radius := s0.Radius, Vertices := r766:Shape}
def body_Clone (b0 : Body) : Option Body :=
 Let (↑b0.Fixtures.length : Int) fun x767 =>
 LOOP
 (fun (rec768 : List Fixture × Int → Option Body) (s769 : List Fixture × Int) =>
 Let (decide (s769.snd < x767)) fun x770 =>
 if x770 = true then
 Chk ((0:Int) ≤ s769.snd ∧ s769.snd < (↑b0.Fixtures.length : Int))
 (Let (ix b0.Fixtures s769.snd) fun x771 =>
 Rx.Bind (shape_Clone x771.Shape) fun r772 =>
 Chk
 ((List.length s769.fst +
 [{Shape := r772, Density := x771.Density, Friction := x771.Friction, Restitution := x771.Restitution, Sensor := x771.Sensor, Category := x771.Category, Mask := x771.Mask, Group := x771.Group:Fixture}].length) *
 (96:Nat) ≤
 (140737488355328:Nat))
 (Let
 (s769.fst ++
 [{Shape := r772, Density := x771.Density, Friction := x771.Friction, Restitution := x771.Restitution, Sensor := x771.Sensor, Category := x771.Category, Mask := x771.Mask, Group := x771.Group:Fixture}])
 fun x773 => Let (IntKind.i64.wrap (s769.snd + (1:Int))) fun x774 => rec768 (x773, x774)))
 else
 some
 {ID := b0.ID, Kind := b0.Kind, Transform := b0.Transform, Velocity := b0.Velocity, AngularVelocity := b0.AngularVelocity, Force := b0.Force, Torque := b0.Torque, LinearDamping := b0.LinearDamping, AngularDamping := b0.AngularDamping, GravityScale := b0.GravityScale, Bullet := b0.Bullet, FixedRotation := b0.FixedRotation, NoSleep := b0.NoSleep, Asleep := b0.Asleep, IdleSteps := b0.IdleSteps, Fixtures := s769.fst:Body})
 fuel ([], (0:Int))
def slices_Clone (s0 : (List Body)) : Option (List Body) :=
 Rx.Alike (s0 = []) (some []) (Chk (s0.length * (152:Nat) ≤ (140737488355328:Nat)) (some s0))
def slices_Clone_107 (s0 : (List Joint)) : Option (List Joint) :=
 Rx.Alike (s0 = []) (some []) (Chk (s0.length * (192:Nat) ≤ (140737488355328:Nat)) (some s0))
def slices_Clone_108 (s0 : (List Contact)) : Option (List Contact) :=
 Rx.Alike (s0 = []) (some []) (Chk (s0.length * (72:Nat) ≤ (140737488355328:Nat)) (some s0))
def slices_Clone_109 (s0 : (List PairKey)) : Option (List PairKey) :=
 Rx.Alike (s0 = []) (some []) (Chk (s0.length * (32:Nat) ≤ (140737488355328:Nat)) (some s0))
def slices_Clone_159 (s0 : (List ContactPoint)) : Option (List ContactPoint) :=
 Rx.Alike (s0 = []) (some []) (Chk (s0.length * (48:Nat) ≤ (140737488355328:Nat)) (some s0))
def manifold_Clone (m0 : Manifold) : Option Manifold :=
 Rx.Bind (slices_Clone_159 m0.Points) fun r775 =>
 some {Normal := m0.Normal, Points := r775:Manifold}
def world_Clone (w0 : World_) : Option World_ :=
 Rx.Bind (slices_Clone w0.Bodies) fun r776 =>
 Rx.Bind (slices_Clone_107 w0.Joints) fun r777 =>
 Rx.Bind (slices_Clone_108 w0.Contacts) fun r778 =>
 Rx.Bind (slices_Clone_109 w0.Overlaps) fun r779 =>
 Let (↑r776.length : Int) fun x780 =>
 LOOP
 (fun (rec781 : Int × List Body → Option World_) (s782 : Int × List Body) =>
 Let (decide (s782.fst < x780)) fun x783 =>
 if x783 = true then
 Chk ((0:Int) ≤ s782.fst ∧ s782.fst < (↑(List.length s782.snd) : Int))
 (Chk ((0:Int) ≤ s782.fst ∧ s782.fst < (↑(List.length s782.snd) : Int))
 (Let (ix s782.snd s782.fst) fun x784 =>
 Rx.Bind (body_Clone x784) fun r785 =>
 Chk ((0:Int) ≤ s782.fst ∧ s782.fst < (↑(List.length s782.snd) : Int))
 (Chk ((0:Int) ≤ s782.fst ∧ s782.fst < (↑(List.length s782.snd) : Int))
 (Let (List.set s782.snd (Int.toNat s782.fst) r785) fun x786 =>
 Let (IntKind.i64.wrap (s782.fst + (1:Int))) fun x787 => rec781 (x787, x786)))))
 else
 Let (↑r778.length : Int) fun x788 =>
 LOOP
 (fun (rec789 : Int × List Contact → Option World_) (s790 : Int × List Contact) =>
 Let (decide (s790.fst < x788)) fun x791 =>
 if x791 = true then
 Chk ((0:Int) ≤ s790.fst ∧ s790.fst < (↑(List.length s790.snd) : Int))
 (Chk ((0:Int) ≤ s790.fst ∧ s790.fst < (↑(List.length s790.snd) : Int))
 (Let (ix s790.snd s790.fst) fun x792 =>
 Rx.Bind (manifold_Clone x792.Manifold) fun r793 =>
 Chk ((0:Int) ≤ s790.fst ∧ s790.fst < (↑(List.length s790.snd) : Int))
 (Chk ((0:Int) ≤ s790.fst ∧ s790.fst < (↑(List.length s790.snd) : Int))
 (Let (List.set s790.snd (Int.toNat s790.fst) {Key := (ix s790.snd s790.fst).Key, Manifold := r793:Contact})
 fun x794 => Let (IntKind.i64.wrap (s790.fst + (1:Int))) fun x795 => rec789 (x795, x794)))))
 else
 some
 {Settings := w0.Settings, Bodies := s782.snd, Joints := r777, Contacts := s790.snd, Overlaps := r779, NextID := w0.NextID, Frame := w0.Frame:World_})
 fuel ((0:Int), r778))
 fuel ((0:Int), r776)
def world_AddBody (w0 : World_) (b1 : Body) : Option (World_ × Int × Int) :=
 Let (↑w0.Bodies.length : Int) fun x796 =>
 Let (decide (x796 ≥ (32:Int))) fun x797 =>
 Let (decide (w0.NextID ≥ (1099511627776:Int))) fun x798 =>
 Let (bif x797 then true else x798) fun x799 =>
 if x799 = true then
 some
 (zW_,
 (0:Int), (9:Int))
 else
 Rx.Bind (body_Clone b1) fun r800 =>
 Rx.Bind
 (body_Validate
 {ID := w0.NextID, Kind := r800.Kind, Transform := r800.Transform, Velocity := r800.Velocity, AngularVelocity := r800.AngularVelocity, Force := r800.Force, Torque := r800.Torque, LinearDamping := r800.LinearDamping, AngularDamping := r800.AngularDamping, GravityScale := r800.GravityScale, Bullet := r800.Bullet, FixedRotation := r800.FixedRotation, NoSleep := r800.NoSleep, Asleep := r800.Asleep, IdleSteps := r800.IdleSteps, Fixtures := r800.Fixtures:Body})
 fun r801 =>
 Let (r801 != (0:Int)) fun x802 =>
 if x802 = true then
 some
 (zW_,
 (0:Int), (14:Int))
 else
 Rx.Bind (world_Clone w0) fun r803 =>
 Chk
 ((r803.Bodies.length +
 [{ID := w0.NextID, Kind := r800.Kind, Transform := r800.Transform, Velocity := r800.Velocity, AngularVelocity := r800.AngularVelocity, Force := r800.Force, Torque := r800.Torque, LinearDamping := r800.LinearDamping, AngularDamping := r800.AngularDamping, GravityScale := r800.GravityScale, Bullet := r800.Bullet, FixedRotation := r800.FixedRotation, NoSleep := r800.NoSleep, Asleep := r800.Asleep, IdleSteps := r800.IdleSteps, Fixtures := r800.Fixtures:Body}].length) *
 (152:Nat) ≤
 (140737488355328:Nat))
 (Let
 (r803.Bodies ++
 [{ID := w0.NextID, Kind := r800.Kind, Transform := r800.Transform, Velocity := r800.Velocity, AngularVelocity := r800.AngularVelocity, Force := r800.Force, Torque := r800.Torque, LinearDamping := r800.LinearDamping, AngularDamping := r800.AngularDamping, GravityScale := r800.GravityScale, Bullet := r800.Bullet, FixedRotation := r800.FixedRotation, NoSleep := r800.NoSleep, Asleep := r800.Asleep, IdleSteps := r800.IdleSteps, Fixtures := r800.Fixtures:Body}])
 fun x804 =>
 Let (IntKind.i64.wrap (r803.NextID + (1:Int))) fun x805 =>
 some
 ({Settings := r803.Settings, Bodies := x804, Joints := r803.Joints, Contacts := r803.Contacts, Overlaps := r803.Overlaps, NextID := x805, Frame := r803.Frame:World_},
 w0.NextID, (0:Int)))
def joint_ResetImpulses (j0 : Joint) : Option Joint :=
 Let
 (decide (j0.Impulses.fst = (0:Int)) &&
 (decide (j0.Impulses.snd.fst = (0:Int)) &&
 (decide (j0.Impulses.snd.snd.fst = (0:Int)) && decide (j0.Impulses.snd.snd.snd = (0:Int)))))
 fun x806 =>
 if x806 = true then some j0
 else
 some
 {ID := j0.ID, Kind := j0.Kind, BodyA := j0.BodyA, BodyB := j0.BodyB, AnchorA := j0.AnchorA, AnchorB := j0.AnchorB, Axis := j0.Axis, ReferenceAngle := j0.ReferenceAngle, EnableLimit := j0.EnableLimit, Lower := j0.Lower, Upper := j0.Upper, EnableMotor := j0.EnableMotor, MotorSpeed := j0.MotorSpeed, MaxForce := j0.MaxForce, Softness := j0.Softness, BreakForce := j0.BreakForce, CollideConnected := j0.CollideConnected, Impulses := ((0:Int), (0:Int), (0:Int), (0:Int)):Joint}
def world_WakeBody (w0 : World_) (id1 : Int) : Option World_ :=
 Rx.Bind (world_Clone w0) fun r807 =>
 Join
 (fun (v808 : List Body) =>
 some
 {Settings := r807.Settings, Bodies := v808, Joints := r807.Joints, Contacts := r807.Contacts, Overlaps := r807.Overlaps, NextID := r807.NextID, Frame := r807.Frame:World_})
 fun (j809 : List Body → Option World_) =>
 Rx.Bind (world_FindBody r807 id1) fun r810 =>
 Let (decide (r810 ≥ (0:Int))) fun x811 =>
 Chk ((x811 == true) = true → (0:Int) ≤ r810 ∧ r810 < (↑r807.Bodies.length : Int))
 (Chk ((x811 == true) = true → (0:Int) ≤ r810 ∧ r810 < (↑r807.Bodies.length : Int))
 (Let (ix r807.Bodies r810) fun x812 =>
 Let (x812.Kind == (3:Int)) fun x813 =>
 Let (bif x811 then x813 else false) fun x814 =>
 if x814 = true then
 Chk ((0:Int) ≤ r810 ∧ r810 < (↑r807.Bodies.length : Int))
 (Chk ((0:Int) ≤ r810 ∧ r810 < (↑r807.Bodies.length : Int))
 (Let
 (r807.Bodies.set r810.toNat
 {ID := (ix r807.Bodies r810).ID, Kind := (ix r807.Bodies r810).Kind, Transform := (ix r807.Bodies r810).Transform, Velocity := (ix r807.Bodies r810).Velocity, AngularVelocity := (ix r807.Bodies r810).AngularVelocity, Force := (ix r807.Bodies r810).Force, Torque := (ix r807.Bodies r810).Torque, LinearDamping := (ix r807.Bodies r810).LinearDamping, AngularDamping := (ix r807.Bodies r810).AngularDamping, GravityScale := (ix r807.Bodies r810).GravityScale, Bullet := (ix r807.Bodies r810).Bullet, FixedRotation := (ix r807.Bodies r810).FixedRotation, NoSleep := (ix r807.Bodies r810).NoSleep, Asleep:=false, IdleSteps := (ix r807.Bodies r810).IdleSteps, Fixtures := (ix r807.Bodies r810).Fixtures:Body})
 fun x815 =>
 Chk ((0:Int) ≤ r810 ∧ r810 < (↑x815.length : Int))
 (Chk ((0:Int) ≤ r810 ∧ r810 < (↑x815.length : Int))
 (Let
 (x815.set r810.toNat
 {ID := (ix x815 r810).ID, Kind := (ix x815 r810).Kind, Transform := (ix x815 r810).Transform, Velocity := (ix x815 r810).Velocity, AngularVelocity := (ix x815 r810).AngularVelocity, Force := (ix x815 r810).Force, Torque := (ix x815 r810).Torque, LinearDamping := (ix x815 r810).LinearDamping, AngularDamping := (ix x815 r810).AngularDamping, GravityScale := (ix x815 r810).GravityScale, Bullet := (ix x815 r810).Bullet, FixedRotation := (ix x815 r810).FixedRotation, NoSleep := (ix x815 r810).NoSleep, Asleep := (ix x815 r810).Asleep, IdleSteps:=(0:Int), Fixtures := (ix x815 r810).Fixtures:Body})
 fun x816 => j809 x816))))
 else j809 r807.Bodies))
def world_wakeAll (w0 : World_) (ids1 : (List Int)) : Option World_ :=
 Let (↑ids1.length : Int) fun x817 =>
 LOOP
 (fun (rec818 : Int × World_ → Option World_) (s819 : Int × World_) =>
 Let (decide (s819.fst < x817)) fun x820 =>
 if x820 = true then
 Join (fun (v821 : World_) => Let (IntKind.i64.wrap (s819.fst + (1:Int))) fun x822 => rec818 (x822, v821))
 fun (j823 : World_ → Option World_) =>
 Chk ((0:Int) ≤ s819.fst ∧ s819.fst < (↑ids1.length : Int))
 (Let (ix ids1 s819.fst) fun x824 =>
 Let (x824 != (0:Int)) fun x825 =>
 if x825 = true then Rx.Bind (world_WakeBody s819.snd x824) fun r826 => j823 r826 else j823 s819.snd)
 else some s819.snd)
 fuel ((0:Int), w0)
def world_AddJoint (w0 : World_) (j1 : Joint) : Option (World_ × Int × Int) :=
 Let (↑w0.Joints.length : Int) fun x827 =>
 Let (decide (x827 ≥ (32:Int))) fun x828 =>
 Let (decide (w0.NextID ≥ (1099511627776:Int))) fun x829 =>
 Let (bif x828 then true else x829) fun x830 =>
 if x830 = true then
 some
 (zW_,
 (0:Int), (9:Int))
 else
 Rx.Bind (joint_ResetImpulses j1) fun r831 =>
 Rx.Bind
 (joint_Validate
 {ID := w0.NextID, Kind := r831.Kind, BodyA := r831.BodyA, BodyB := r831.BodyB, AnchorA := r831.AnchorA, AnchorB := r831.AnchorB, Axis := r831.Axis, ReferenceAngle := r831.ReferenceAngle, EnableLimit := r831.EnableLimit, Lower := r831.Lower, Upper := r831.Upper, EnableMotor := r831.EnableMotor, MotorSpeed := r831.MotorSpeed, MaxForce := r831.MaxForce, Softness := r831.Softness, BreakForce := r831.BreakForce, CollideConnected := r831.CollideConnected, Impulses := r831.Impulses:Joint})
 fun r832 =>
 Let (r832 != (0:Int)) fun x833 =>
 Rx.Bind
 (if (x833 == false) = true then
 world_bodiesExist w0
 {ID := w0.NextID, Kind := r831.Kind, BodyA := r831.BodyA, BodyB := r831.BodyB, AnchorA := r831.AnchorA, AnchorB := r831.AnchorB, Axis := r831.Axis, ReferenceAngle := r831.ReferenceAngle, EnableLimit := r831.EnableLimit, Lower := r831.Lower, Upper := r831.Upper, EnableMotor := r831.EnableMotor, MotorSpeed := r831.MotorSpeed, MaxForce := r831.MaxForce, Softness := r831.Softness, BreakForce := r831.BreakForce, CollideConnected := r831.CollideConnected, Impulses := r831.Impulses:Joint}
 else some default)
 fun r834 =>
 Let (!r834) fun x835 =>
 Let (bif x833 then true else x835) fun x836 =>
 if x836 = true then
 some
 (zW_,
 (0:Int), (15:Int))
 else
 Rx.Bind (world_Clone w0) fun r837 =>
 Chk
 ((r837.Joints.length +
 [{ID := w0.NextID, Kind := r831.Kind, BodyA := r831.BodyA, BodyB := r831.BodyB, AnchorA := r831.AnchorA, AnchorB := r831.AnchorB, Axis := r831.Axis, ReferenceAngle := r831.ReferenceAngle, EnableLimit := r831.EnableLimit, Lower := r831.Lower, Upper := r831.Upper, EnableMotor := r831.EnableMotor, MotorSpeed := r831.MotorSpeed, MaxForce := r831.MaxForce, Softness := r831.Softness, BreakForce := r831.BreakForce, CollideConnected := r831.CollideConnected, Impulses := r831.Impulses:Joint}].length) *
 (192:Nat) ≤
 (140737488355328:Nat))
 (Let
 (r837.Joints ++
 [{ID := w0.NextID, Kind := r831.Kind, BodyA := r831.BodyA, BodyB := r831.BodyB, AnchorA := r831.AnchorA, AnchorB := r831.AnchorB, Axis := r831.Axis, ReferenceAngle := r831.ReferenceAngle, EnableLimit := r831.EnableLimit, Lower := r831.Lower, Upper := r831.Upper, EnableMotor := r831.EnableMotor, MotorSpeed := r831.MotorSpeed, MaxForce := r831.MaxForce, Softness := r831.Softness, BreakForce := r831.BreakForce, CollideConnected := r831.CollideConnected, Impulses := r831.Impulses:Joint}])
 fun x838 =>
 Let (IntKind.i64.wrap (r837.NextID + (1:Int))) fun x839 =>
 Rx.Bind
 (world_wakeAll
 {Settings := r837.Settings, Bodies := r837.Bodies, Joints := x838, Contacts := r837.Contacts, Overlaps := r837.Overlaps, NextID := x839, Frame := r837.Frame:World_}
 [r831.BodyA, r831.BodyB])
 fun r840 => some (r840, w0.NextID, (0:Int)))
def world_RemoveBody_1 (k0 : PairKey) (p1 : Int) : Option Bool :=
 Let (k0.BodyA == p1) fun x841 =>
 Let (k0.BodyB == p1) fun x842 => Let (bif x841 then true else x842) fun x843 => some x843
def joint_Attached (j0 : Joint) (id1 : Int) : Option Bool :=
 Let (id1 != (0:Int)) fun x844 =>
 Let (j0.BodyA == id1) fun x845 =>
 Let (j0.BodyB == id1) fun x846 =>
 Let (bif x845 then true else x846) fun x847 =>
 Let (bif x844 then x847 else false) fun x848 => some x848
def world_other (a0 : Int) (b1 : Int) (id2 : Int) : Option Int :=
 Let (a0 == id2) fun x849 => if x849 = true then some b1 else some a0
def world_RemoveBody_2 (j0 : Joint) (p1 : Int) : Option Bool :=
 Rx.Bind (joint_Attached j0 p1) fun r850 => some r850
def slices_IndexFunc_128 (s0 : (List Joint)) (f1 : (Joint → Option Bool)) : Option Int :=
 Let (↑s0.length : Int) fun x851 =>
 LOOP
 (fun (rec852 : Int → Option Int) (s853 : Int) =>
 Let (decide (s853 < x851)) fun x854 =>
 if x854 = true then
 Chk ((0:Int) ≤ s853 ∧ s853 < (↑s0.length : Int))
 (Let (ix s0 s853) fun x855 =>
 Rx.Bind (f1 x855) fun r856 =>
 if r856 = true then some s853 else Let (IntKind.i64.wrap (s853 + (1:Int))) fun x857 => rec852 x857)
 else some (-1:Int))
 fuel (0:Int)
def world_RemoveBody_O (r860 : World_) (id1 : Int) (ns0 : List Int) (B : List Body) (J : List Joint) (C : List Contact) : Option (World_ × Int) :=
 Rx.Bind (slices_IndexFunc_130 r860.Overlaps fun (a : Tup tb [Ix.tPairKey]) => world_RemoveBody_1 a id1)
 fun r1206 =>
 Let (r1206 == (-1:Int)) fun x1207 =>
 if x1207 = true then
 Rx.Bind
 (world_wakeAll
 {Settings := r860.Settings, Bodies := B, Joints := J, Contacts := C, Overlaps := r860.Overlaps, NextID := r860.NextID, Frame := r860.Frame:World_}
 ns0)
 fun r1208 => some (r1208, (0:Int))
 else
 Let (IntKind.i64.wrap (r1206 + (1:Int))) fun x1209 =>
 LOOP
 (fun (rec1210 : Int × Int × List PairKey → Option (World_ × Int)) (s1211 : Int × Int × List PairKey) =>
 Let (↑(List.length s1211.snd.snd) : Int) fun x1212 =>
 Let (decide (s1211.snd.fst < x1212)) fun x1213 =>
 if x1213 = true then
 Join
 (fun (v1214 : Int × List PairKey) =>
 Let (IntKind.i64.wrap (s1211.snd.fst + (1:Int))) fun x1215 => rec1210 (v1214.fst, x1215, v1214.snd))
 fun (j1216 : Int × List PairKey → Option (World_ × Int)) =>
 Chk ((0:Int) ≤ s1211.snd.fst ∧ s1211.snd.fst < (↑(List.length s1211.snd.snd) : Int))
 (Chk ((0:Int) ≤ s1211.snd.fst ∧ s1211.snd.fst < (↑(List.length s1211.snd.snd) : Int))
 (Let (ix s1211.snd.snd s1211.snd.fst) fun x1217 =>
 Rx.Bind (world_RemoveBody_1 x1217 id1) fun r1218 =>
 Let (!r1218) fun x1219 =>
 if x1219 = true then
 Chk ((0:Int) ≤ s1211.fst ∧ s1211.fst < (↑(List.length s1211.snd.snd) : Int))
 (Chk ((0:Int) ≤ s1211.fst ∧ s1211.fst < (↑(List.length s1211.snd.snd) : Int))
 (Let (List.set s1211.snd.snd (Int.toNat s1211.fst) x1217) fun x1220 =>
 Let (IntKind.i64.wrap (s1211.fst + (1:Int))) fun x1221 => j1216 (x1221, x1220)))
 else j1216 (s1211.fst, s1211.snd.snd)))
 else
 Chk
 ((0:Int) ≤ (some s1211.fst).getD (0:Int) ∧
 (0:Int) ≤ none.getD (0:Int) ∧
 Int.toNat s1211.fst ≤ List.length s1211.snd.snd ∧ List.length s1211.snd.snd ≤ List.length s1211.snd.snd)
 (Chk
 (Int.toNat s1211.fst + (List.length s1211.snd.snd - Int.toNat s1211.fst) ≤ List.length s1211.snd.snd ∧
 (0:Nat) < List.length s1211.snd.snd - Int.toNat s1211.fst)
 (Let
 (List.take (Int.toNat s1211.fst) s1211.snd.snd ++
 List.replicate (List.length s1211.snd.snd - Int.toNat s1211.fst)
 {BodyA:=(0:Int), FixtureA:=(0:Int), BodyB:=(0:Int), FixtureB:=(0:Int):PairKey} ++
 List.drop (Int.toNat s1211.fst + (List.length s1211.snd.snd - Int.toNat s1211.fst)) s1211.snd.snd)
 fun x1222 =>
 Chk
 ((0:Int) ≤ none.getD (0:Int) ∧
 (0:Int) ≤ (some s1211.fst).getD (0:Int) ∧ (0:Nat) ≤ Int.toNat s1211.fst ∧ Int.toNat s1211.fst ≤ x1222.length)
 (Chk (Int.toNat s1211.fst - (0:Nat) ≤ x1222.length)
 (Let (List.take (Int.toNat s1211.fst - (0:Nat)) x1222) fun x1223 =>
 Rx.Bind
 (world_wakeAll
 {Settings := r860.Settings, Bodies := B, Joints := J, Contacts := C, Overlaps := x1223, NextID := r860.NextID, Frame := r860.Frame:World_}
 ns0)
 fun r1224 => some (r1224, (0:Int)))))))
 fuel (r1206, x1209, r860.Overlaps)
def world_RemoveBody_C (r860 : World_) (id1 : Int) (ns0 : List Int) (B : List Body) (J : List Joint) : Option (World_ × Int) :=
 Let (↑r860.Contacts.length : Int) fun x1165 =>
 LOOP
 (fun (rec1166 : Int → Option (World_ × Int)) (s1167 : Int) =>
 Let (decide (s1167 < x1165)) fun x1168 =>
 if x1168 = true then
 Chk ((0:Int) ≤ s1167 ∧ s1167 < (↑r860.Contacts.length : Int))
 (Chk ((0:Int) ≤ s1167 ∧ s1167 < (↑r860.Contacts.length : Int))
 (Let (ix r860.Contacts s1167) fun x1169 =>
 Rx.Bind (world_RemoveBody_1 x1169.Key id1) fun r1170 =>
 if r1170 = true then
 Let (s1167 == (-1:Int)) fun x1171 =>
 if x1171 = true then
 world_RemoveBody_O r860 id1 ns0 B J r860.Contacts
 else
 Let (IntKind.i64.wrap (s1167 + (1:Int))) fun x1191 =>
 LOOP
 (fun (rec1192 : Int × Int × List Contact → Option (World_ × Int)) (s1193 : Int × Int × List Contact) =>
 Let (↑(List.length s1193.snd.snd) : Int) fun x1194 =>
 Let (decide (s1193.snd.fst < x1194)) fun x1195 =>
 if x1195 = true then
 Join
 (fun (v1196 : Int × List Contact) =>
 Let (IntKind.i64.wrap (s1193.snd.fst + (1:Int))) fun x1197 => rec1192 (v1196.fst, x1197, v1196.snd))
 fun (j1198 : Int × List Contact → Option (World_ × Int)) =>
 Chk ((0:Int) ≤ s1193.snd.fst ∧ s1193.snd.fst < (↑(List.length s1193.snd.snd) : Int))
 (Chk ((0:Int) ≤ s1193.snd.fst ∧ s1193.snd.fst < (↑(List.length s1193.snd.snd) : Int))
 (Let (ix s1193.snd.snd s1193.snd.fst) fun x1199 =>
 Rx.Bind (world_RemoveBody_1 x1199.Key id1) fun r1200 =>
 Let (!r1200) fun x1201 =>
 if x1201 = true then
 Chk ((0:Int) ≤ s1193.fst ∧ s1193.fst < (↑(List.length s1193.snd.snd) : Int))
 (Chk ((0:Int) ≤ s1193.fst ∧ s1193.fst < (↑(List.length s1193.snd.snd) : Int))
 (Let (List.set s1193.snd.snd (Int.toNat s1193.fst) x1199) fun x1202 =>
 Let (IntKind.i64.wrap (s1193.fst + (1:Int))) fun x1203 => j1198 (x1203, x1202)))
 else j1198 (s1193.fst, s1193.snd.snd)))
 else
 Chk
 ((0:Int) ≤ (some s1193.fst).getD (0:Int) ∧
 (0:Int) ≤ none.getD (0:Int) ∧
 Int.toNat s1193.fst ≤ List.length s1193.snd.snd ∧ List.length s1193.snd.snd ≤ List.length s1193.snd.snd)
 (Chk
 (Int.toNat s1193.fst + (List.length s1193.snd.snd - Int.toNat s1193.fst) ≤ List.length s1193.snd.snd ∧
 (0:Nat) < List.length s1193.snd.snd - Int.toNat s1193.fst)
 (Let
 (List.take (Int.toNat s1193.fst) s1193.snd.snd ++
 List.replicate (List.length s1193.snd.snd - Int.toNat s1193.fst)
 {Key := {BodyA:=(0:Int), FixtureA:=(0:Int), BodyB:=(0:Int), FixtureB:=(0:Int):PairKey}, Manifold := {Normal := {X:=(0:Int), Y:=(0:Int):Vec}, Points:=[]:Manifold}:Contact} ++
 List.drop (Int.toNat s1193.fst + (List.length s1193.snd.snd - Int.toNat s1193.fst)) s1193.snd.snd)
 fun x1204 =>
 Chk
 ((0:Int) ≤ none.getD (0:Int) ∧
 (0:Int) ≤ (some s1193.fst).getD (0:Int) ∧ (0:Nat) ≤ Int.toNat s1193.fst ∧ Int.toNat s1193.fst ≤ x1204.length)
 (Chk (Int.toNat s1193.fst - (0:Nat) ≤ x1204.length)
 (Let (List.take (Int.toNat s1193.fst - (0:Nat)) x1204) fun x1205 =>
 world_RemoveBody_O r860 id1 ns0 B J x1205)))))
 fuel (s1167, x1191, r860.Contacts)
 else Let (IntKind.i64.wrap (s1167 + (1:Int))) fun x1225 => rec1166 x1225))
 else
 world_RemoveBody_O r860 id1 ns0 B J r860.Contacts)
 fuel (0:Int)
def world_RemoveBody_J (r860 : World_) (id1 : Int) (ns0 : List Int) (B : List Body) : Option (World_ × Int) :=
 Rx.Bind (slices_IndexFunc_128 r860.Joints fun (a : Tup tb [Ix.tJoint]) => world_RemoveBody_2 a id1) fun r1068 =>
 Let (r1068 == (-1:Int)) fun x1069 =>
 if x1069 = true then
 world_RemoveBody_C r860 id1 ns0 B r860.Joints
 else
 Let (IntKind.i64.wrap (r1068 + (1:Int))) fun x1150 =>
 LOOP
 (fun (rec1151 : Int × Int × List Joint → Option (World_ × Int)) (s1152 : Int × Int × List Joint) =>
 Let (↑(List.length s1152.snd.snd) : Int) fun x1153 =>
 Let (decide (s1152.snd.fst < x1153)) fun x1154 =>
 if x1154 = true then
 Join
 (fun (v1155 : Int × List Joint) =>
 Let (IntKind.i64.wrap (s1152.snd.fst + (1:Int))) fun x1156 => rec1151 (v1155.fst, x1156, v1155.snd))
 fun (j1157 : Int × List Joint → Option (World_ × Int)) =>
 Chk ((0:Int) ≤ s1152.snd.fst ∧ s1152.snd.fst < (↑(List.length s1152.snd.snd) : Int))
 (Chk ((0:Int) ≤ s1152.snd.fst ∧ s1152.snd.fst < (↑(List.length s1152.snd.snd) : Int))
 (Let (ix s1152.snd.snd s1152.snd.fst) fun x1158 =>
 Rx.Bind (world_RemoveBody_2 x1158 id1) fun r1159 =>
 Let (!r1159) fun x1160 =>
 if x1160 = true then
 Chk ((0:Int) ≤ s1152.fst ∧ s1152.fst < (↑(List.length s1152.snd.snd) : Int))
 (Chk ((0:Int) ≤ s1152.fst ∧ s1152.fst < (↑(List.length s1152.snd.snd) : Int))
 (Let (List.set s1152.snd.snd (Int.toNat s1152.fst) x1158) fun x1161 =>
 Let (IntKind.i64.wrap (s1152.fst + (1:Int))) fun x1162 => j1157 (x1162, x1161)))
 else j1157 (s1152.fst, s1152.snd.snd)))
 else
 Chk
 ((0:Int) ≤ (some s1152.fst).getD (0:Int) ∧
 (0:Int) ≤ none.getD (0:Int) ∧
 Int.toNat s1152.fst ≤ List.length s1152.snd.snd ∧ List.length s1152.snd.snd ≤ List.length s1152.snd.snd)
 (Chk
 (Int.toNat s1152.fst + (List.length s1152.snd.snd - Int.toNat s1152.fst) ≤ List.length s1152.snd.snd ∧
 (0:Nat) < List.length s1152.snd.snd - Int.toNat s1152.fst)
 (Let
 (List.take (Int.toNat s1152.fst) s1152.snd.snd ++
 List.replicate (List.length s1152.snd.snd - Int.toNat s1152.fst)
 {ID:=(0:Int), Kind:=(0:Int), BodyA:=(0:Int), BodyB:=(0:Int), AnchorA := {X:=(0:Int), Y:=(0:Int):Vec}, AnchorB := {X:=(0:Int), Y:=(0:Int):Vec}, Axis := {X:=(0:Int), Y:=(0:Int):Vec}, ReferenceAngle:=(0:Int), EnableLimit:=false, Lower:=(0:Int), Upper:=(0:Int), EnableMotor:=false, MotorSpeed:=(0:Int), MaxForce:=(0:Int), Softness:=(0:Int), BreakForce:=(0:Int), CollideConnected:=false, Impulses := ((0:Int), (0:Int), (0:Int), (0:Int)):Joint} ++
 List.drop (Int.toNat s1152.fst + (List.length s1152.snd.snd - Int.toNat s1152.fst)) s1152.snd.snd)
 fun x1163 =>
 Chk
 ((0:Int) ≤ none.getD (0:Int) ∧
 (0:Int) ≤ (some s1152.fst).getD (0:Int) ∧ (0:Nat) ≤ Int.toNat s1152.fst ∧ Int.toNat s1152.fst ≤ x1163.length)
 (Chk (Int.toNat s1152.fst - (0:Nat) ≤ x1163.length)
 (Let (List.take (Int.toNat s1152.fst - (0:Nat)) x1163) fun x1164 =>
 world_RemoveBody_C r860 id1 ns0 B x1164)))))
 fuel (r1068, x1150, r860.Joints)
def world_RemoveBody (w0 : World_) (id1 : Int) : Option (World_ × Int) :=
 Rx.Bind (world_FindBody w0 id1) fun r858 =>
 Let (decide (r858 < (0:Int))) fun x859 =>
 if x859 = true then
 some
 (zW_,
 (8:Int))
 else
 Rx.Bind (world_Clone w0) fun r860 =>
 Let (↑r860.Joints.length : Int) fun x861 =>
 LOOP
 (fun (rec862 : List Int × Int → Option (World_ × Int)) (s863 : List Int × Int) =>
 Let (decide (s863.snd < x861)) fun x864 =>
 if x864 = true then
 Join (fun (v865 : List Int) => Let (IntKind.i64.wrap (s863.snd + (1:Int))) fun x866 => rec862 (v865, x866))
 fun (j867 : List Int → Option (World_ × Int)) =>
 Chk ((0:Int) ≤ s863.snd ∧ s863.snd < (↑r860.Joints.length : Int))
 (Chk ((0:Int) ≤ s863.snd ∧ s863.snd < (↑r860.Joints.length : Int))
 (Let (ix r860.Joints s863.snd) fun x868 =>
 Rx.Bind (joint_Attached x868 id1) fun r869 =>
 if r869 = true then
 Rx.Bind (world_other x868.BodyA x868.BodyB id1) fun r870 =>
 Chk ((List.length s863.fst + [r870].length) * (8:Nat) ≤ (140737488355328:Nat))
 (Let (s863.fst ++ [r870]) fun x871 => j867 x871)
 else j867 s863.fst))
 else
 Let (↑r860.Contacts.length : Int) fun x872 =>
 LOOP
 (fun (rec873 : List Int × Int → Option (World_ × Int)) (s874 : List Int × Int) =>
 Let (decide (s874.snd < x872)) fun x875 =>
 if x875 = true then
 Join (fun (v876 : List Int) => Let (IntKind.i64.wrap (s874.snd + (1:Int))) fun x877 => rec873 (v876, x877))
 fun (j878 : List Int → Option (World_ × Int)) =>
 Chk ((0:Int) ≤ s874.snd ∧ s874.snd < (↑r860.Contacts.length : Int))
 (Chk ((0:Int) ≤ s874.snd ∧ s874.snd < (↑r860.Contacts.length : Int))
 (Let (ix r860.Contacts s874.snd) fun x879 =>
 Rx.Bind (world_RemoveBody_1 x879.Key id1) fun r880 =>
 if r880 = true then
 Rx.Bind (world_other x879.Key.BodyA x879.Key.BodyB id1) fun r881 =>
 Chk ((List.length s874.fst + [r881].length) * (8:Nat) ≤ (140737488355328:Nat))
 (Let (s874.fst ++ [r881]) fun x882 => j878 x882)
 else j878 s874.fst))
 else
 Let (IntKind.i64.wrap (r858 + (1:Int))) fun x883 =>
 Let (↑r860.Bodies.length : Int) fun x884 =>
 Chk ((0:Int) ≤ r858 ∧ r858 ≤ x883 ∧ x883 ≤ x884 ∧ x884 ≤ (↑r860.Bodies.length : Int))
 (Let (r858 == x883) fun x885 =>
 if x885 = true then
 world_RemoveBody_J r860 id1 s874.fst r860.Bodies
 else
 Let (↑r860.Bodies.length : Int) fun x1063 =>
 Chk
 ((0:Int) ≤ none.getD (0:Int) ∧
 (0:Int) ≤ (some r858).getD (0:Int) ∧ (0:Nat) ≤ r858.toNat ∧ r858.toNat ≤ r860.Bodies.length)
 (Chk
 ((0:Int) ≤ (some x883).getD (0:Int) ∧
 (0:Int) ≤ none.getD (0:Int) ∧ x883.toNat ≤ r860.Bodies.length ∧ r860.Bodies.length ≤ r860.Bodies.length)
 (Chk (x883.toNat + (r860.Bodies.length - x883.toNat) ≤ r860.Bodies.length)
 (Let (List.take (r860.Bodies.length - x883.toNat) (List.drop x883.toNat r860.Bodies)) fun x1064 =>
 Chk
 ((0:Nat) + (r858.toNat - (0:Nat) + x1064.length) ≤ r860.Bodies.length ∧
 r858.toNat - (0:Nat) + x1064.length ≤ r860.Bodies.length - (0:Nat) ∧ (0:Nat) < r860.Bodies.length - (0:Nat))
 (Let
 (List.take ((0:Nat) + (r858.toNat - (0:Nat))) r860.Bodies ++ x1064 ++
 List.drop ((0:Nat) + (r858.toNat - (0:Nat)) + x1064.length) r860.Bodies)
 fun x1065 =>
 Chk
 ((0:Int) ≤ (some (↑(r858.toNat - (0:Nat) + x1064.length) : Int)).getD (0:Int) ∧
 (0:Int) ≤ (some x1063).getD (0:Int) ∧
 (↑(r858.toNat - (0:Nat) + x1064.length) : Int).toNat ≤ x1063.toNat ∧
 x1063.toNat ≤ r860.Bodies.length - (0:Nat) ∧ r858.toNat - (0:Nat) + x1064.length ≤ r860.Bodies.length - (0:Nat))
 (Chk
 ((0:Nat) + (↑(r858.toNat - (0:Nat) + x1064.length) : Int).toNat +
 (x1063.toNat - (↑(r858.toNat - (0:Nat) + x1064.length) : Int).toNat) ≤
 x1065.length ∧
 (0:Nat) < r860.Bodies.length - (0:Nat) - (↑(r858.toNat - (0:Nat) + x1064.length) : Int).toNat)
 (Let
 (List.take ((0:Nat) + (↑(r858.toNat - (0:Nat) + x1064.length) : Int).toNat) x1065 ++
 List.replicate (x1063.toNat - (↑(r858.toNat - (0:Nat) + x1064.length) : Int).toNat)
 {ID:=(0:Int), Kind:=(0:Int), Transform := {Position := {X:=(0:Int), Y:=(0:Int):Vec}, Angle:=(0:Int):Transform}, Velocity := {X:=(0:Int), Y:=(0:Int):Vec}, AngularVelocity:=(0:Int), Force := {X:=(0:Int), Y:=(0:Int):Vec}, Torque:=(0:Int), LinearDamping:=(0:Int), AngularDamping:=(0:Int), GravityScale:=(0:Int), Bullet:=false, FixedRotation:=false, NoSleep:=false, Asleep:=false, IdleSteps:=(0:Int), Fixtures:=[]:Body} ++
 List.drop
 ((0:Nat) + (↑(r858.toNat - (0:Nat) + x1064.length) : Int).toNat +
 (x1063.toNat - (↑(r858.toNat - (0:Nat) + x1064.length) : Int).toNat))
 x1065)
 fun x1066 =>
 Chk (r858.toNat - (0:Nat) + x1064.length ≤ x1066.length)
 (Let (List.take (r858.toNat - (0:Nat) + x1064.length) x1066) fun x1067 =>
 world_RemoveBody_J r860 id1 s874.fst x1067)))))))))
 fuel (s863.fst, (0:Int)))
 fuel ([], (0:Int))
def world_FindJoint_1 (j0 : Joint) (p1 : Int) : Option Bool :=
 Let (j0.ID == p1) fun x1245 => some x1245
def world_FindJoint (w0 : World_) (id1 : Int) : Option Int :=
 Rx.Bind (slices_IndexFunc_128 w0.Joints fun (a : Tup tb [Ix.tJoint]) => world_FindJoint_1 a id1) fun r1246 =>
 some r1246
def world_RemoveJoint (w0 : World_) (id1 : Int) : Option (World_ × Int) :=
 Rx.Bind (world_FindJoint w0 id1) fun r1247 =>
 Let (decide (r1247 < (0:Int))) fun x1248 =>
 if x1248 = true then
 some
 (zW_,
 (8:Int))
 else
 Rx.Bind (world_Clone w0) fun r1249 =>
 Chk ((0:Int) ≤ r1247 ∧ r1247 < (↑r1249.Joints.length : Int))
 (Chk ((0:Int) ≤ r1247 ∧ r1247 < (↑r1249.Joints.length : Int))
 (Let (ix r1249.Joints r1247) fun x1250 =>
 Let (IntKind.i64.wrap (r1247 + (1:Int))) fun x1251 =>
 Let (↑r1249.Joints.length : Int) fun x1252 =>
 Chk ((0:Int) ≤ r1247 ∧ r1247 ≤ x1251 ∧ x1251 ≤ x1252 ∧ x1252 ≤ (↑r1249.Joints.length : Int))
 (Let (r1247 == x1251) fun x1253 =>
 if x1253 = true then
 Rx.Bind (world_wakeAll r1249 [x1250.BodyA, x1250.BodyB]) fun r1254 => some (r1254, (0:Int))
 else
 Let (↑r1249.Joints.length : Int) fun x1255 =>
 Chk
 ((0:Int) ≤ none.getD (0:Int) ∧
 (0:Int) ≤ (some r1247).getD (0:Int) ∧ (0:Nat) ≤ r1247.toNat ∧ r1247.toNat ≤ r1249.Joints.length)
 (Chk
 ((0:Int) ≤ (some x1251).getD (0:Int) ∧
 (0:Int) ≤ none.getD (0:Int) ∧ x1251.toNat ≤ r1249.Joints.length ∧ r1249.Joints.length ≤ r1249.Joints.length)
 (Chk (x1251.toNat + (r1249.Joints.length - x1251.toNat) ≤ r1249.Joints.length)
 (Let (List.take (r1249.Joints.length - x1251.toNat) (List.drop x1251.toNat r1249.Joints)) fun x1256 =>
 Chk
 ((0:Nat) + (r1247.toNat - (0:Nat) + x1256.length) ≤ r1249.Joints.length ∧
 r1247.toNat - (0:Nat) + x1256.length ≤ r1249.Joints.length - (0:Nat) ∧ (0:Nat) < r1249.Joints.length - (0:Nat))
 (Let
 (List.take ((0:Nat) + (r1247.toNat - (0:Nat))) r1249.Joints ++ x1256 ++
 List.drop ((0:Nat) + (r1247.toNat - (0:Nat)) + x1256.length) r1249.Joints)
 fun x1257 =>
 Chk
 ((0:Int) ≤ (some (↑(r1247.toNat - (0:Nat) + x1256.length) : Int)).getD (0:Int) ∧
 (0:Int) ≤ (some x1255).getD (0:Int) ∧
 (↑(r1247.toNat - (0:Nat) + x1256.length) : Int).toNat ≤ x1255.toNat ∧
 x1255.toNat ≤ r1249.Joints.length - (0:Nat) ∧
 r1247.toNat - (0:Nat) + x1256.length ≤ r1249.Joints.length - (0:Nat))
 (Chk
 ((0:Nat) + (↑(r1247.toNat - (0:Nat) + x1256.length) : Int).toNat +
 (x1255.toNat - (↑(r1247.toNat - (0:Nat) + x1256.length) : Int).toNat) ≤
 x1257.length ∧
 (0:Nat) < r1249.Joints.length - (0:Nat) - (↑(r1247.toNat - (0:Nat) + x1256.length) : Int).toNat)
 (Let
 (List.take ((0:Nat) + (↑(r1247.toNat - (0:Nat) + x1256.length) : Int).toNat) x1257 ++
 List.replicate (x1255.toNat - (↑(r1247.toNat - (0:Nat) + x1256.length) : Int).toNat)
 {ID:=(0:Int), Kind:=(0:Int), BodyA:=(0:Int), BodyB:=(0:Int), AnchorA := {X:=(0:Int), Y:=(0:Int):Vec}, AnchorB := {X:=(0:Int), Y:=(0:Int):Vec}, Axis := {X:=(0:Int), Y:=(0:Int):Vec}, ReferenceAngle:=(0:Int), EnableLimit:=false, Lower:=(0:Int), Upper:=(0:Int), EnableMotor:=false, MotorSpeed:=(0:Int), MaxForce:=(0:Int), Softness:=(0:Int), BreakForce:=(0:Int), CollideConnected:=false, Impulses := ((0:Int), (0:Int), (0:Int), (0:Int)):Joint} ++
 List.drop
 ((0:Nat) + (↑(r1247.toNat - (0:Nat) + x1256.length) : Int).toNat +
 (x1255.toNat - (↑(r1247.toNat - (0:Nat) + x1256.length) : Int).toNat))
 x1257)
 fun x1258 =>
 Chk (r1247.toNat - (0:Nat) + x1256.length ≤ x1258.length)
 (Let (List.take (r1247.toNat - (0:Nat) + x1256.length) x1258) fun x1259 =>
 Rx.Bind
 (world_wakeAll
 {Settings := r1249.Settings, Bodies := r1249.Bodies, Joints := x1259, Contacts := r1249.Contacts, Overlaps := r1249.Overlaps, NextID := r1249.NextID, Frame := r1249.Frame:World_}
 [x1250.BodyA, x1250.BodyB])
 fun r1260 => some (r1260, (0:Int))))))))))))
def input_applyToJoint (w0 : World_) (x1 : Input) : Option (World_ × Int) :=
 Rx.Bind (world_FindJoint w0 x1.ID) fun r1261 =>
 Let (decide (r1261 < (0:Int))) fun x1262 =>
 if x1262 = true then
 some
 (zW_,
 (8:Int))
 else
 Chk ((0:Int) ≤ r1261 ∧ r1261 < (↑w0.Joints.length : Int))
 (Let (ix w0.Joints r1261) fun x1263 =>
 Join
 (fun (v1264 : World_ × Joint) =>
 Rx.Bind (joint_Validate v1264.snd) fun r1265 =>
 Let (r1265 != (0:Int)) fun x1266 =>
 if x1266 = true then
 some
 (zW_,
 (6:Int))
 else
 Rx.Bind (world_Clone w0) fun r1267 =>
 Chk ((0:Int) ≤ r1261 ∧ r1261 < (↑r1267.Joints.length : Int))
 (Chk ((0:Int) ≤ r1261 ∧ r1261 < (↑r1267.Joints.length : Int))
 (Let (r1267.Joints.set r1261.toNat v1264.snd) fun x1268 =>
 Rx.Bind
 (world_WakeBody
 {Settings := r1267.Settings, Bodies := r1267.Bodies, Joints := x1268, Contacts := r1267.Contacts, Overlaps := r1267.Overlaps, NextID := r1267.NextID, Frame := r1267.Frame:World_}
 v1264.snd.BodyA)
 fun r1269 =>
 Rx.Bind (world_WakeBody r1269 v1264.snd.BodyB) fun r1270 => some (r1270, (0:Int)))))
 fun (j1271 : World_ × Joint → Option (World_ × Int)) =>
 Let (x1.Kind == (7:Int)) fun x1272 =>
 if x1272 = true then
 Let (x1263.Kind != (5:Int)) fun x1273 =>
 if x1273 = true then
 some
 (zW_,
 (10:Int))
 else
 j1271
 (zW_,
 {ID := x1263.ID, Kind := x1263.Kind, BodyA := x1263.BodyA, BodyB := x1263.BodyB, AnchorA := x1.Vec, AnchorB := x1263.AnchorB, Axis := x1263.Axis, ReferenceAngle := x1263.ReferenceAngle, EnableLimit := x1263.EnableLimit, Lower := x1263.Lower, Upper := x1263.Upper, EnableMotor := x1263.EnableMotor, MotorSpeed := x1263.MotorSpeed, MaxForce := x1263.MaxForce, Softness := x1263.Softness, BreakForce := x1263.BreakForce, CollideConnected := x1263.CollideConnected, Impulses := x1263.Impulses:Joint})
 else
 Let (!x1263.EnableMotor) fun x1274 =>
 if x1274 = true then
 some
 (zW_,
 (10:Int))
 else
 j1271
 (zW_,
 {ID := x1263.ID, Kind := x1263.Kind, BodyA := x1263.BodyA, BodyB := x1263.BodyB, AnchorA := x1263.AnchorA, AnchorB := x1263.AnchorB, Axis := x1263.Axis, ReferenceAngle := x1263.ReferenceAngle, EnableLimit := x1263.EnableLimit, Lower := x1263.Lower, Upper := x1263.Upper, EnableMotor := x1263.EnableMotor, MotorSpeed := x1.Value, MaxForce := x1263.MaxForce, Softness := x1263.Softness, BreakForce := x1263.BreakForce, CollideConnected := x1263.CollideConnected, Impulses := x1263.Impulses:Joint}))
def input_checkBody (b0 : Body) (x1 : Input) : Option Int :=
 Join (fun (v1275 : PUnit) => some (0:Int)) fun (j1276 : PUnit → Option Int) =>
 Let (x1.Kind == (4:Int)) fun x1277 =>
 if x1277 = true then
 Rx.Bind (transform_Valid {Position := x1.Vec, Angle := x1.Value:Transform}) fun r1278 =>
 Let (!r1278) fun x1279 => if x1279 = true then some (6:Int) else j1276 ()
 else
 Let (x1.Kind == (5:Int)) fun x1280 =>
 if x1280 = true then Let (b0.Kind == (1:Int)) fun x1281 => if x1281 = true then some (10:Int) else j1276 ()
 else Let (b0.Kind != (3:Int)) fun x1282 => if x1282 = true then some (10:Int) else j1276 ()
def fixed_Mul (a0 : Int) (b1 : Int) : Option Int :=
 Rx.Bind (fixed_Saturate a0) fun r1283 =>
 Rx.Bind (fixed_Saturate b1) fun r1284 =>
 Let (IntKind.i64.wrap (r1283 * r1284)) fun x1285 =>
 Rx.Bind (fixed_RoundDiv x1285 (65536:Int)) fun r1286 =>
 Rx.Bind (fixed_Saturate r1286) fun r1287 => some r1287
def massdata_ofCircle (s0 : Shape) (density1 : Int) : Option MassData :=
 Rx.Bind (fixed_Mul s0.Radius s0.Radius) fun r1288 =>
 Rx.Bind (fixed_Mul (205888:Int) r1288) fun r1289 =>
 Rx.Bind (fixed_Mul r1289 density1) fun r1290 =>
 Chk ((0:Int) ≤ (0:Int) ∧ (0:Int) < (↑s0.Vertices.length : Int))
 (Let (ix s0.Vertices (0:Int)) fun x1291 =>
 Rx.Bind (fixed_RoundDiv r1288 (2:Int)) fun r1292 =>
 Rx.Bind (fixed_Mul r1290 r1292) fun r1293 =>
 some {Mass := r1290, Center := x1291, Inertia := r1293 : MassData })
def fixed_Add (a0 : Int) (b1 : Int) : Option Int :=
 Rx.Bind (fixed_Saturate a0) fun r1294 =>
 Rx.Bind (fixed_Saturate b1) fun r1295 =>
 Let (IntKind.i64.wrap (r1294 + r1295)) fun x1296 =>
 Rx.Bind (fixed_Saturate x1296) fun r1297 => some r1297
def fixed_Lerp (a0 : Int) (b1 : Int) (t2 : Int) : Option Int :=
 Rx.Bind (fixed_Sub b1 a0) fun r1298 =>
 Rx.Bind (fixed_Mul r1298 t2) fun r1299 => Rx.Bind (fixed_Add a0 r1299) fun r1300 => some r1300
def vec2_Lerp (a0 : Vec) (b1 : Vec) (t2 : Int) : Option Vec :=
 Rx.Bind (fixed_Lerp a0.X b1.X t2) fun r1301 =>
 Rx.Bind (fixed_Lerp a0.Y b1.Y t2) fun r1302 => some {X := r1301, Y := r1302:Vec}
def massdata_ofCapsule (s0 : Shape) (density1 : Int) : Option MassData :=
 Rx.Bind (fixed_Mul s0.Radius s0.Radius) fun r1303 =>
 Chk ((0:Int) ≤ (1:Int) ∧ (1:Int) < (↑s0.Vertices.length : Int))
 (Let (ix s0.Vertices (1:Int)) fun x1304 =>
 Chk ((0:Int) ≤ (0:Int) ∧ (0:Int) < (↑s0.Vertices.length : Int))
 (Let (ix s0.Vertices (0:Int)) fun x1305 =>
 Rx.Bind (vec2_Sub x1304 x1305) fun r1306 =>
 Rx.Bind (vec2_Length r1306) fun r1307 =>
 Rx.Bind (fixed_Mul (205888:Int) r1303) fun r1308 =>
 Rx.Bind (fixed_Add s0.Radius s0.Radius) fun r1309 =>
 Rx.Bind (fixed_Mul r1309 r1307) fun r1310 =>
 Rx.Bind (fixed_Add r1308 r1310) fun r1311 =>
 Rx.Bind (fixed_Mul r1311 density1) fun r1312 =>
 Rx.Bind (fixed_RoundDiv r1303 (2:Int)) fun r1313 =>
 Rx.Bind (fixed_Mul r1307 r1307) fun r1314 =>
 Rx.Bind (fixed_RoundDiv r1314 (12:Int)) fun r1315 =>
 Rx.Bind (fixed_Add r1313 r1315) fun r1316 =>
 Chk ((0:Int) ≤ (0:Int) ∧ (0:Int) < (↑s0.Vertices.length : Int))
 (Let (ix s0.Vertices (0:Int)) fun x1317 =>
 Chk ((0:Int) ≤ (1:Int) ∧ (1:Int) < (↑s0.Vertices.length : Int))
 (Let (ix s0.Vertices (1:Int)) fun x1318 =>
 Rx.Bind (vec2_Lerp x1317 x1318 (32768:Int)) fun r1319 =>
 Rx.Bind (fixed_Mul r1312 r1316) fun r1320 =>
 some {Mass := r1312, Center := r1319, Inertia := r1320 : MassData }))))
def polygon_Centroid (vertices0 : (List Vec)) : Option Vec :=
 Rx.Bind (polygon_IsConvex vertices0) fun r1321 =>
 Let (!r1321) fun x1322 =>
 if x1322 = true then some {X:=(0:Int), Y:=(0:Int):Vec}
 else
 Rx.Bind (polygon_fan vertices0) fun r1323 =>
 Let (r1323.snd == (0:Int)) fun x1324 =>
 if x1324 = true then
 Chk ((0:Int) ≤ (0:Int) ∧ (0:Int) < (↑vertices0.length : Int))
 (Let (ix vertices0 (0:Int)) fun x1325 => some x1325)
 else
 Let (↑(List.length r1323.fst) : Int) fun x1326 =>
 LOOP
 (fun (rec1327 : Int × Int × Int → Option Vec) (s1328 : Int × Int × Int) =>
 Let (decide (s1328.snd.snd < x1326)) fun x1329 =>
 if x1329 = true then
 Chk ((0:Int) ≤ s1328.snd.snd ∧ s1328.snd.snd < (↑(List.length r1323.fst) : Int))
 (Let (ix r1323.fst s1328.snd.snd) fun x1330 =>
 Let (IntKind.i64.wrap (x1330.e.X + x1330.f.X)) fun x1331 =>
 Let (IntKind.i64.wrap (x1331 * x1330.cross)) fun x1332 =>
 Let (IntKind.i64.wrap (s1328.fst + x1332)) fun x1333 =>
 Let (IntKind.i64.wrap (x1330.e.Y + x1330.f.Y)) fun x1334 =>
 Let (IntKind.i64.wrap (x1334 * x1330.cross)) fun x1335 =>
 Let (IntKind.i64.wrap (s1328.snd.fst + x1335)) fun x1336 =>
 Let (IntKind.i64.wrap (s1328.snd.snd + (1:Int))) fun x1337 => rec1327 (x1333, x1336, x1337))
 else
 Chk ((0:Int) ≤ (0:Int) ∧ (0:Int) < (↑vertices0.length : Int))
 (Let (ix vertices0 (0:Int)) fun x1338 =>
 Let (IntKind.i64.wrap ((3:Int) * r1323.snd)) fun x1339 =>
 Rx.Bind (fixed_RoundDiv s1328.fst x1339) fun r1340 =>
 Let (IntKind.i64.wrap (x1338.X + r1340)) fun x1341 =>
 Chk ((0:Int) ≤ (0:Int) ∧ (0:Int) < (↑vertices0.length : Int))
 (Let (ix vertices0 (0:Int)) fun x1342 =>
 Let (IntKind.i64.wrap ((3:Int) * r1323.snd)) fun x1343 =>
 Rx.Bind (fixed_RoundDiv s1328.snd.fst x1343) fun r1344 =>
 Let (IntKind.i64.wrap (x1342.Y + r1344)) fun x1345 => some {X := x1341, Y := x1345:Vec})))
 fuel ((0:Int), (0:Int), (0:Int))
def vec2_product (n0 : Int) : Option Int :=
 Rx.Bind (fixed_RoundDiv n0 (65536:Int)) fun r1346 =>
 Rx.Bind (fixed_Saturate r1346) fun r1347 => some r1347
def vec2_Cross (a0 : Vec) (b1 : Vec) : Option Int :=
 Rx.Bind (vec2_saturate a0) fun r1348 =>
 Rx.Bind (vec2_saturate b1) fun r1349 =>
 Let (IntKind.i64.wrap (r1348.X * r1349.Y)) fun x1350 =>
 Let (IntKind.i64.wrap (r1348.Y * r1349.X)) fun x1351 =>
 Let (IntKind.i64.wrap (x1350 - x1351)) fun x1352 => Rx.Bind (vec2_product x1352) fun r1353 => some r1353
def vec2_Dot (a0 : Vec) (b1 : Vec) : Option Int :=
 Rx.Bind (vec2_saturate a0) fun r1354 =>
 Rx.Bind (vec2_saturate b1) fun r1355 =>
 Let (IntKind.i64.wrap (r1354.X * r1355.X)) fun x1356 =>
 Let (IntKind.i64.wrap (r1354.Y * r1355.Y)) fun x1357 =>
 Let (IntKind.i64.wrap (x1356 + x1357)) fun x1358 => Rx.Bind (vec2_product x1358) fun r1359 => some r1359
def massdata_ofPolygon (s0 : Shape) (density1 : Int) : Option MassData :=
 Rx.Bind (polygon_Area s0.Vertices) fun r1360 =>
 Rx.Bind (fixed_Mul r1360 density1) fun r1361 =>
 Rx.Bind (polygon_Centroid s0.Vertices) fun r1362 =>
 Let (↑s0.Vertices.length : Int) fun x1363 =>
 Let (IntKind.i64.wrap (x1363 - (1:Int))) fun x1364 =>
 Chk ((0:Int) ≤ x1364 ∧ x1364 < (↑s0.Vertices.length : Int))
 (Let (ix s0.Vertices x1364) fun x1365 =>
 Rx.Bind (vec2_Sub x1365 r1362) fun r1366 =>
 Let (↑s0.Vertices.length : Int) fun x1367 =>
 LOOP
 (fun (rec1368 : Int × Int × Int × Vec → Option MassData) (s1369 : Int × Int × Int × Vec) =>
 Let (decide (s1369.snd.snd.fst < x1367)) fun x1370 =>
 if x1370 = true then
 Chk ((0:Int) ≤ s1369.snd.snd.fst ∧ s1369.snd.snd.fst < (↑s0.Vertices.length : Int))
 (Let (ix s0.Vertices s1369.snd.snd.fst) fun x1371 =>
 Rx.Bind (vec2_Sub x1371 r1362) fun r1372 =>
 Rx.Bind (vec2_Cross s1369.snd.snd.snd r1372) fun r1373 =>
 Rx.Bind (vec2_Dot s1369.snd.snd.snd s1369.snd.snd.snd) fun r1374 =>
 Rx.Bind (vec2_Dot s1369.snd.snd.snd r1372) fun r1375 =>
 Let (IntKind.i64.wrap (r1374 + r1375)) fun x1376 =>
 Rx.Bind (vec2_Dot r1372 r1372) fun r1377 =>
 Let (IntKind.i64.wrap (x1376 + r1377)) fun x1378 =>
 Let (IntKind.i64.wrap (r1373 * x1378)) fun x1379 =>
 Let (IntKind.i64.wrap (s1369.fst + x1379)) fun x1380 =>
 Let (IntKind.i64.wrap (s1369.snd.fst + r1373)) fun x1381 =>
 Let (IntKind.i64.wrap (s1369.snd.snd.fst + (1:Int))) fun x1382 => rec1368 (x1380, x1381, x1382, r1372))
 else
 Let (decide (s1369.snd.fst < (1:Int))) fun x1383 =>
 if x1383 = true then some {Mass := r1361, Center := r1362, Inertia:=(0:Int) : MassData }
 else
 Rx.Bind (fixed_RoundDiv s1369.fst s1369.snd.fst) fun r1384 =>
 Rx.Bind (fixed_RoundDiv r1384 (6:Int)) fun r1385 =>
 Rx.Bind (fixed_Mul r1361 r1385) fun r1386 =>
 some {Mass := r1361, Center := r1362, Inertia := r1386 : MassData })
 fuel ((0:Int), (0:Int), (0:Int), r1366))
def massdata_OfShape (s0 : Shape) (density1 : Int) : Option MassData :=
 Rx.Bind (shape_Validate s0) fun r1387 =>
 Let (r1387 != (0:Int)) fun x1388 =>
 Let (decide (density1 < (0:Int))) fun x1389 =>
 Let (bif x1388 then true else x1389) fun x1390 =>
 Let (decide (density1 > (262144:Int))) fun x1391 =>
 Let (bif x1390 then true else x1391) fun x1392 =>
 if x1392 = true then
 some {Mass:=(0:Int), Center := {X:=(0:Int), Y:=(0:Int):Vec}, Inertia:=(0:Int) : MassData }
 else
 Let (s0.Kind == (1:Int)) fun x1393 =>
 if x1393 = true then Rx.Bind (massdata_ofCircle s0 density1) fun r1394 => some r1394
 else
 Let (s0.Kind == (2:Int)) fun x1395 =>
 if x1395 = true then Rx.Bind (massdata_ofCapsule s0 density1) fun r1396 => some r1396
 else Rx.Bind (massdata_ofPolygon s0 density1) fun r1397 => some r1397
def slices_IndexFunc_271 (s0 : (List MassData)) (f1 : (MassData → Option Bool)) : Option Int :=
 Let (↑s0.length : Int) fun x1398 =>
 LOOP
 (fun (rec1399 : Int → Option Int) (s1400 : Int) =>
 Let (decide (s1400 < x1398)) fun x1401 =>
 if x1401 = true then
 Chk ((0:Int) ≤ s1400 ∧ s1400 < (↑s0.length : Int))
 (Let (ix s0 s1400) fun x1402 =>
 Rx.Bind (f1 x1402) fun r1403 =>
 if r1403 = true then some s1400 else Let (IntKind.i64.wrap (s1400 + (1:Int))) fun x1404 => rec1399 x1404)
 else some (-1:Int))
 fuel (0:Int)
def slices_ContainsFunc_265 (s0 : (List MassData)) (f1 : (MassData → Option Bool)) : Option Bool :=
 Rx.Bind (slices_IndexFunc_271 s0 f1) fun r1405 =>
 Let (decide (r1405 ≥ (0:Int))) fun x1406 => some x1406
def massdata_Combine_1 (p0 : MassData) : Option Bool :=
 Let (decide (p0.Mass < (0:Int))) fun x1407 => some x1407
def massdata_Combine (parts0 : (List MassData)) : Option MassData :=
 Let (↑parts0.length : Int) fun x1408 =>
 Let (decide (x1408 > (8:Int))) fun x1409 =>
 Rx.Bind
 (if (x1409 == false) = true then slices_ContainsFunc_265 parts0 fun (a : Tup tb [Ix.tMassData]) => massdata_Combine_1 a
 else some default)
 fun r1410 =>
 Let (bif x1409 then true else r1410) fun x1411 =>
 if x1411 = true then
 some {Mass:=(0:Int), Center := {X:=(0:Int), Y:=(0:Int):Vec}, Inertia:=(0:Int) : MassData }
 else
 Let (↑parts0.length : Int) fun x1412 =>
 LOOP
 (fun (rec1413 : Int × Int × Int × Int × MassData → Option MassData) (s1414 : Int × Int × Int × Int × MassData) =>
 Let (decide (s1414.snd.snd.snd.fst < x1412)) fun x1415 =>
 if x1415 = true then
 Chk ((0:Int) ≤ s1414.snd.snd.snd.fst ∧ s1414.snd.snd.snd.fst < (↑parts0.length : Int))
 (Let (ix parts0 s1414.snd.snd.snd.fst) fun x1416 =>
 Rx.Bind (fixed_Saturate x1416.Mass) fun r1417 =>
 Rx.Bind (fixed_Add s1414.snd.snd.snd.snd.Mass r1417) fun r1418 =>
 Let (IntKind.i64.wrap (s1414.fst + r1417)) fun x1419 =>
 Rx.Bind (fixed_Saturate x1416.Center.X) fun r1420 =>
 Let (IntKind.i64.wrap (r1417 * r1420)) fun x1421 =>
 Let (IntKind.i64.wrap (s1414.snd.fst + x1421)) fun x1422 =>
 Rx.Bind (fixed_Saturate x1416.Center.Y) fun r1423 =>
 Let (IntKind.i64.wrap (r1417 * r1423)) fun x1424 =>
 Let (IntKind.i64.wrap (s1414.snd.snd.fst + x1424)) fun x1425 =>
 Let (IntKind.i64.wrap (s1414.snd.snd.snd.fst + (1:Int))) fun x1426 =>
 rec1413
 (x1419, x1422, x1425, x1426,
 {Mass := r1418, Center := s1414.snd.snd.snd.snd.Center, Inertia := s1414.snd.snd.snd.snd.Inertia : MassData }))
 else
 Join
 (fun (v1427 : MassData) =>
 Let (↑parts0.length : Int) fun x1428 =>
 LOOP
 (fun (rec1429 : Int × MassData → Option MassData) (s1430 : Int × MassData) =>
 Let (decide (s1430.fst < x1428)) fun x1431 =>
 if x1431 = true then
 Chk ((0:Int) ≤ s1430.fst ∧ s1430.fst < (↑parts0.length : Int))
 (Let (ix parts0 s1430.fst) fun x1432 =>
 Rx.Bind (vec2_Sub x1432.Center s1430.snd.Center) fun r1433 =>
 Rx.Bind (fixed_Add s1430.snd.Inertia x1432.Inertia) fun r1434 =>
 Rx.Bind (vec2_Dot r1433 r1433) fun r1435 =>
 Rx.Bind (fixed_Mul x1432.Mass r1435) fun r1436 =>
 Rx.Bind (fixed_Add r1434 r1436) fun r1437 =>
 Let (IntKind.i64.wrap (s1430.fst + (1:Int))) fun x1438 =>
 rec1429 (x1438, {Mass := s1430.snd.Mass, Center := s1430.snd.Center, Inertia := r1437 : MassData }))
 else some s1430.snd)
 fuel ((0:Int), v1427))
 fun (j1439 : MassData → Option MassData) =>
 Let (decide (s1414.fst > (0:Int))) fun x1440 =>
 if x1440 = true then
 Rx.Bind (fixed_RoundDiv s1414.snd.fst s1414.fst) fun r1441 =>
 Rx.Bind (fixed_RoundDiv s1414.snd.snd.fst s1414.fst) fun r1442 =>
 j1439
 {Mass := s1414.snd.snd.snd.snd.Mass, Center := {X := r1441, Y := r1442:Vec}, Inertia := s1414.snd.snd.snd.snd.Inertia : MassData }
 else j1439 s1414.snd.snd.snd.snd)
 fuel
 ((0:Int), (0:Int), (0:Int), (0:Int),
 {Mass:=(0:Int), Center := {X:=(0:Int), Y:=(0:Int):Vec}, Inertia:=(0:Int) : MassData })
def massdata_OfFixtures (fixtures0 : (List Fixture)) : Option MassData :=
 Let (↑fixtures0.length : Int) fun x1443 =>
 Let (decide (x1443 > (4:Int))) fun x1444 =>
 if x1444 = true then
 some {Mass:=(0:Int), Center := {X:=(0:Int), Y:=(0:Int):Vec}, Inertia:=(0:Int) : MassData }
 else
 Let (↑fixtures0.length : Int) fun x1445 =>
 LOOP
 (fun (rec1446 : List MassData × Int → Option MassData) (s1447 : List MassData × Int) =>
 Let (decide (s1447.snd < x1445)) fun x1448 =>
 if x1448 = true then
 Join
 (fun (v1449 : List MassData) =>
 Let (IntKind.i64.wrap (s1447.snd + (1:Int))) fun x1450 => rec1446 (v1449, x1450))
 fun (j1451 : List MassData → Option MassData) =>
 Chk ((0:Int) ≤ s1447.snd ∧ s1447.snd < (↑fixtures0.length : Int))
 (Let (ix fixtures0 s1447.snd) fun x1452 =>
 Let (!x1452.Sensor) fun x1453 =>
 if x1453 = true then
 Rx.Bind (massdata_OfShape x1452.Shape x1452.Density) fun r1454 =>
 Chk ((List.length s1447.fst + [r1454].length) * (32:Nat) ≤ (140737488355328:Nat))
 (Let (s1447.fst ++ [r1454]) fun x1455 => j1451 x1455)
 else j1451 s1447.fst)
 else Rx.Bind (massdata_Combine s1447.fst) fun r1456 => some r1456)
 fuel ([], (0:Int))
def body_MassData (b0 : Body) : Option MassData :=
 Rx.Bind (massdata_OfFixtures b0.Fixtures) fun r1457 => some r1457
def angle_Normalize (a0 : Int) : Option Int :=
 Let (a0.tmod (411776:Int)) fun x1458 =>
 Let (decide (x1458 ≥ (205888:Int))) fun x1459 =>
 if x1459 = true then Let (IntKind.i64.wrap (x1458 - (411776:Int))) fun x1460 => some x1460
 else
 Let (decide (x1458 < (-205888:Int))) fun x1461 =>
 if x1461 = true then Let (IntKind.i64.wrap (x1458 + (411776:Int))) fun x1462 => some x1462 else some x1458
def angle_abs (x0 : Int) : Option Int :=
 Let (decide (x0 < (0:Int))) fun x1463 =>
 if x1463 = true then Let (IntKind.i64.wrap ((0:Int) - x0)) fun x1464 => some x1464 else some x0
def fixed_Clamp (x0 : Int) (low1 : Int) (high2 : Int) : Option Int :=
 Let (decide (low1 > high2)) fun x1465 =>
 Let (decide (x0 < low1)) fun x1466 =>
 Let (bif x1465 then true else x1466) fun x1467 =>
 if x1467 = true then some low1
 else Let (decide (x0 > high2)) fun x1468 => if x1468 = true then some high2 else some x0
def fixed_Div (a0 : Int) (b1 : Int) : Option Int :=
 Rx.Bind (fixed_Saturate a0) fun r1469 =>
 Let (IntKind.i64.wrap (r1469 * (65536:Int))) fun x1470 =>
 Rx.Bind (fixed_Saturate b1) fun r1471 =>
 Join
 (fun (v1472 : Int × Int) =>
 Rx.Bind (fixed_RoundDiv v1472.fst v1472.snd) fun r1473 =>
 Rx.Bind (fixed_Saturate r1473) fun r1474 => some r1474)
 fun (j1475 : Int × Int → Option Int) =>
 Let (r1471 == (0:Int)) fun x1476 =>
 if x1476 = true then
 Rx.Bind (fixed_Clamp x1470 (-1:Int) (1:Int)) fun r1477 =>
 Let (IntKind.i64.wrap (r1477 * (536870911:Int))) fun x1478 => some x1478
 else
 Let (decide (r1471 < (0:Int))) fun x1479 =>
 if x1479 = true then
 Let (IntKind.i64.wrap ((0:Int) - x1470)) fun x1480 =>
 Let (IntKind.i64.wrap ((0:Int) - r1471)) fun x1481 => j1475 (x1480, x1481)
 else j1475 (x1470, r1471)
def angle_Sin (a0 : Int) : Option Int :=
 Rx.Bind (angle_Normalize a0) fun r1482 =>
 Rx.Bind (angle_abs r1482) fun r1483 =>
 Join
 (fun (v1484 : Int) =>
 Rx.Bind (fixed_Div v1484 (102944:Int)) fun r1485 =>
 Rx.Bind (fixed_Mul r1485 r1485) fun r1486 =>
 Rx.Bind (fixed_Mul r1486 (4569:Int)) fun r1487 =>
 Rx.Bind (fixed_Sub (41906:Int) r1487) fun r1488 =>
 Rx.Bind (fixed_Mul r1486 r1488) fun r1489 =>
 Rx.Bind (fixed_Sub (102873:Int) r1489) fun r1490 =>
 Rx.Bind (fixed_Mul r1485 r1490) fun r1491 =>
 Let (decide (r1482 < (0:Int))) fun x1492 =>
 if x1492 = true then Let (IntKind.i64.wrap ((0:Int) - r1491)) fun x1493 => some x1493 else some r1491)
 fun (j1494 : Int → Option Int) =>
 Let (decide (r1483 > (102944:Int))) fun x1495 =>
 if x1495 = true then Let (IntKind.i64.wrap ((205888:Int) - r1483)) fun x1496 => j1494 x1496 else j1494 r1483
def angle_Cos (a0 : Int) : Option Int :=
 Rx.Bind (angle_Normalize a0) fun r1497 =>
 Rx.Bind (angle_abs r1497) fun r1498 =>
 Let (IntKind.i64.wrap ((102944:Int) - r1498)) fun x1499 =>
 Rx.Bind (angle_Sin x1499) fun r1500 => some r1500
def angle_Rot (a0 : Int) : Option Rot :=
 Rx.Bind (angle_Cos a0) fun r1501 =>
 Rx.Bind (angle_Sin a0) fun r1502 =>
 Let (IntKind.i64.wrap (r1501 * r1501)) fun x1503 =>
 Let (IntKind.i64.wrap (r1502 * r1502)) fun x1504 =>
 Let (IntKind.i64.wrap (x1503 + x1504)) fun x1505 =>
 Rx.Bind (fixed_Isqrt x1505) fun r1506 =>
 Rx.Bind (fixed_Div r1501 r1506) fun r1507 =>
 Rx.Bind (fixed_Div r1502 r1506) fun r1508 => some {Cos := r1507, Sin := r1508 : Rot }
def vec2_Rotate (r0 : Rot) (v1 : Vec) : Option Vec :=
 Rx.Bind (fixed_Saturate r0.Cos) fun r1509 =>
 Rx.Bind (fixed_Saturate r0.Sin) fun r1510 =>
 Rx.Bind (vec2_saturate v1) fun r1511 =>
 Let (IntKind.i64.wrap (r1509 * r1511.X)) fun x1512 =>
 Let (IntKind.i64.wrap (r1510 * r1511.Y)) fun x1513 =>
 Let (IntKind.i64.wrap (x1512 - x1513)) fun x1514 =>
 Rx.Bind (vec2_product x1514) fun r1515 =>
 Let (IntKind.i64.wrap (r1510 * r1511.X)) fun x1516 =>
 Let (IntKind.i64.wrap (r1509 * r1511.Y)) fun x1517 =>
 Let (IntKind.i64.wrap (x1516 + x1517)) fun x1518 =>
 Rx.Bind (vec2_product x1518) fun r1519 => some {X := r1515, Y := r1519:Vec}
def vec2_Add (a0 : Vec) (b1 : Vec) : Option Vec :=
 Rx.Bind (fixed_Add a0.X b1.X) fun r1520 =>
 Rx.Bind (fixed_Add a0.Y b1.Y) fun r1521 => some {X := r1520, Y := r1521:Vec}
def transform_Apply (t0 : Transform) (v1 : Vec) : Option Vec :=
 Rx.Bind (angle_Rot t0.Angle) fun r1522 =>
 Rx.Bind (vec2_Rotate r1522 v1) fun r1523 => Rx.Bind (vec2_Add r1523 t0.Position) fun r1524 => some r1524
def body_WorldCenter (b0 : Body) : Option Vec :=
 Rx.Bind (body_MassData b0) fun r1525 =>
 Rx.Bind (transform_Apply b0.Transform r1525.Center) fun r1526 => some r1526
def massdata_Inverse (m0 : MassData) (kind1 : Int) (fixedRotation2 : Bool) : Option (Int × Int) :=
 Let (kind1 != (3:Int)) fun x1527 =>
 if x1527 = true then some ((0:Int), (0:Int))
 else
 Join
 (fun (v1528 : Int) =>
 Join (fun (v1529 : Int) => some (v1528, v1529)) fun (j1530 : Int → Option (Int × Int)) =>
 Let (decide (m0.Inertia > (0:Int))) fun x1531 =>
 Let (!fixedRotation2) fun x1532 =>
 Let (bif x1531 then x1532 else false) fun x1533 =>
 if x1533 = true then Rx.Bind (fixed_Div (65536:Int) m0.Inertia) fun r1534 => j1530 r1534 else j1530 (0:Int))
 fun (j1535 : Int → Option (Int × Int)) =>
 Let (decide (m0.Mass > (0:Int))) fun x1536 =>
 if x1536 = true then Rx.Bind (fixed_Div (65536:Int) m0.Mass) fun r1537 => j1535 r1537 else j1535 (65536:Int)
def body_SolverBody (b0 : Body) : Option SolverBody :=
 Rx.Bind (body_MassData b0) fun r1538 =>
 Rx.Bind (massdata_Inverse r1538 b0.Kind b0.FixedRotation) fun r1539 =>
 some
 {Velocity := b0.Velocity, AngularVelocity := b0.AngularVelocity, InvMass := r1539.fst, InvInertia := r1539.snd : SolverBody }
def vec2_Scale (v0 : Vec) (k1 : Int) : Option Vec :=
 Rx.Bind (fixed_Mul v0.X k1) fun r1540 =>
 Rx.Bind (fixed_Mul v0.Y k1) fun r1541 => some {X := r1540, Y := r1541:Vec}
def body_ClampVelocity (b0 : Body) : Option Body :=
 Rx.Bind (fixed_Clamp b0.Velocity.X (-16777216:Int) (16777216:Int)) fun r1542 =>
 Rx.Bind (fixed_Clamp b0.Velocity.Y (-16777216:Int) (16777216:Int)) fun r1543 =>
 Rx.Bind (fixed_Clamp b0.AngularVelocity (-4194304:Int) (4194304:Int)) fun r1544 =>
 some
 {ID := b0.ID, Kind := b0.Kind, Transform := b0.Transform, Velocity := {X := r1542, Y := r1543:Vec}, AngularVelocity := r1544, Force := b0.Force, Torque := b0.Torque, LinearDamping := b0.LinearDamping, AngularDamping := b0.AngularDamping, GravityScale := b0.GravityScale, Bullet := b0.Bullet, FixedRotation := b0.FixedRotation, NoSleep := b0.NoSleep, Asleep := b0.Asleep, IdleSteps := b0.IdleSteps, Fixtures := b0.Fixtures:Body}
def body_awake (b0 : Body) : Option Body :=
 Rx.Bind (body_ClampVelocity b0) fun r1545 =>
 some
 {ID := r1545.ID, Kind := r1545.Kind, Transform := r1545.Transform, Velocity := r1545.Velocity, AngularVelocity := r1545.AngularVelocity, Force := r1545.Force, Torque := r1545.Torque, LinearDamping := r1545.LinearDamping, AngularDamping := r1545.AngularDamping, GravityScale := r1545.GravityScale, Bullet := r1545.Bullet, FixedRotation := r1545.FixedRotation, NoSleep := r1545.NoSleep, Asleep:=false, IdleSteps:=(0:Int), Fixtures := r1545.Fixtures:Body}
def body_ApplyImpulse (b0 : Body) (point1 : Vec) (impulse2 : Vec) : Option Body :=
 Let (b0.Kind != (3:Int)) fun x1546 =>
 if x1546 = true then some b0
 else
 Rx.Bind (body_SolverBody b0) fun r1547 =>
 Rx.Bind (body_WorldCenter b0) fun r1548 =>
 Rx.Bind (vec2_Sub point1 r1548) fun r1549 =>
 Rx.Bind (vec2_Scale impulse2 r1547.InvMass) fun r1550 =>
 Rx.Bind (vec2_Add b0.Velocity r1550) fun r1551 =>
 Rx.Bind (vec2_Cross r1549 impulse2) fun r1552 =>
 Rx.Bind (fixed_Mul r1552 r1547.InvInertia) fun r1553 =>
 Rx.Bind (fixed_Add b0.AngularVelocity r1553) fun r1554 =>
 Rx.Bind
 (body_awake
 {ID := b0.ID, Kind := b0.Kind, Transform := b0.Transform, Velocity := r1551, AngularVelocity := r1554, Force := b0.Force, Torque := b0.Torque, LinearDamping := b0.LinearDamping, AngularDamping := b0.AngularDamping, GravityScale := b0.GravityScale, Bullet := b0.Bullet, FixedRotation := b0.FixedRotation, NoSleep := b0.NoSleep, Asleep := b0.Asleep, IdleSteps := b0.IdleSteps, Fixtures := b0.Fixtures:Body})
 fun r1555 => some r1555
def body_ApplyAngularImpulse (b0 : Body) (impulse1 : Int) : Option Body :=
 Let (b0.Kind != (3:Int)) fun x1556 =>
 if x1556 = true then some b0
 else
 Rx.Bind (body_SolverBody b0) fun r1557 =>
 Rx.Bind (fixed_Mul impulse1 r1557.InvInertia) fun r1558 =>
 Rx.Bind (fixed_Add b0.AngularVelocity r1558) fun r1559 =>
 Rx.Bind
 (body_awake
 {ID := b0.ID, Kind := b0.Kind, Transform := b0.Transform, Velocity := b0.Velocity, AngularVelocity := r1559, Force := b0.Force, Torque := b0.Torque, LinearDamping := b0.LinearDamping, AngularDamping := b0.AngularDamping, GravityScale := b0.GravityScale, Bullet := b0.Bullet, FixedRotation := b0.FixedRotation, NoSleep := b0.NoSleep, Asleep := b0.Asleep, IdleSteps := b0.IdleSteps, Fixtures := b0.Fixtures:Body})
 fun r1560 => some r1560
def input_changed (b0 : Body) (x1 : Input) : Option Body :=
 Join (fun (v1561 : Body × Body) => some v1561.fst) fun (j1562 : Body × Body → Option Body) =>
 Let (x1.Kind == (1:Int)) fun x1563 =>
 if x1563 = true then
 Rx.Bind (body_WorldCenter b0) fun r1564 =>
 Rx.Bind (body_ApplyImpulse b0 r1564 x1.Vec) fun r1565 => some r1565
 else
 Let (x1.Kind == (3:Int)) fun x1566 =>
 if x1566 = true then Rx.Bind (body_ApplyAngularImpulse b0 x1.Value) fun r1567 => some r1567
 else
 Let (x1.Kind == (2:Int)) fun x1568 =>
 if x1568 = true then
 Rx.Bind (vec2_Add b0.Force x1.Vec) fun r1569 =>
 j1562
 ({ID := b0.ID, Kind := b0.Kind, Transform := b0.Transform, Velocity := b0.Velocity, AngularVelocity := b0.AngularVelocity, Force := r1569, Torque := b0.Torque, LinearDamping := b0.LinearDamping, AngularDamping := b0.AngularDamping, GravityScale := b0.GravityScale, Bullet := b0.Bullet, FixedRotation := b0.FixedRotation, NoSleep := b0.NoSleep, Asleep := b0.Asleep, IdleSteps := b0.IdleSteps, Fixtures := b0.Fixtures:Body},
 {ID:=(0:Int), Kind:=(0:Int), Transform := {Position := {X:=(0:Int), Y:=(0:Int):Vec}, Angle:=(0:Int):Transform}, Velocity := {X:=(0:Int), Y:=(0:Int):Vec}, AngularVelocity:=(0:Int), Force := {X:=(0:Int), Y:=(0:Int):Vec}, Torque:=(0:Int), LinearDamping:=(0:Int), AngularDamping:=(0:Int), GravityScale:=(0:Int), Bullet:=false, FixedRotation:=false, NoSleep:=false, Asleep:=false, IdleSteps:=(0:Int), Fixtures:=[]:Body})
 else
 Let (x1.Kind == (4:Int)) fun x1570 =>
 if x1570 = true then
 j1562
 ({ID := b0.ID, Kind := b0.Kind, Transform := {Position := x1.Vec, Angle := x1.Value:Transform}, Velocity := b0.Velocity, AngularVelocity := b0.AngularVelocity, Force := b0.Force, Torque := b0.Torque, LinearDamping := b0.LinearDamping, AngularDamping := b0.AngularDamping, GravityScale := b0.GravityScale, Bullet := b0.Bullet, FixedRotation := b0.FixedRotation, NoSleep := b0.NoSleep, Asleep := b0.Asleep, IdleSteps := b0.IdleSteps, Fixtures := b0.Fixtures:Body},
 {ID:=(0:Int), Kind:=(0:Int), Transform := {Position := {X:=(0:Int), Y:=(0:Int):Vec}, Angle:=(0:Int):Transform}, Velocity := {X:=(0:Int), Y:=(0:Int):Vec}, AngularVelocity:=(0:Int), Force := {X:=(0:Int), Y:=(0:Int):Vec}, Torque:=(0:Int), LinearDamping:=(0:Int), AngularDamping:=(0:Int), GravityScale:=(0:Int), Bullet:=false, FixedRotation:=false, NoSleep:=false, Asleep:=false, IdleSteps:=(0:Int), Fixtures:=[]:Body})
 else
 Let (x1.Kind == (5:Int)) fun x1571 =>
 if x1571 = true then
 Rx.Bind
 (body_ClampVelocity
 {ID := b0.ID, Kind := b0.Kind, Transform := b0.Transform, Velocity := x1.Vec, AngularVelocity := x1.Value, Force := b0.Force, Torque := b0.Torque, LinearDamping := b0.LinearDamping, AngularDamping := b0.AngularDamping, GravityScale := b0.GravityScale, Bullet := b0.Bullet, FixedRotation := b0.FixedRotation, NoSleep := b0.NoSleep, Asleep := b0.Asleep, IdleSteps := b0.IdleSteps, Fixtures := b0.Fixtures:Body})
 fun r1572 =>
 j1562
 (r1572,
 {ID:=(0:Int), Kind:=(0:Int), Transform := {Position := {X:=(0:Int), Y:=(0:Int):Vec}, Angle:=(0:Int):Transform}, Velocity := {X:=(0:Int), Y:=(0:Int):Vec}, AngularVelocity:=(0:Int), Force := {X:=(0:Int), Y:=(0:Int):Vec}, Torque:=(0:Int), LinearDamping:=(0:Int), AngularDamping:=(0:Int), GravityScale:=(0:Int), Bullet:=false, FixedRotation:=false, NoSleep:=false, Asleep:=false, IdleSteps:=(0:Int), Fixtures:=[]:Body})
 else
 j1562
 (b0,
 {ID:=(0:Int), Kind:=(0:Int), Transform := {Position := {X:=(0:Int), Y:=(0:Int):Vec}, Angle:=(0:Int):Transform}, Velocity := {X:=(0:Int), Y:=(0:Int):Vec}, AngularVelocity:=(0:Int), Force := {X:=(0:Int), Y:=(0:Int):Vec}, Torque:=(0:Int), LinearDamping:=(0:Int), AngularDamping:=(0:Int), GravityScale:=(0:Int), Bullet:=false, FixedRotation:=false, NoSleep:=false, Asleep:=false, IdleSteps:=(0:Int), Fixtures:=[]:Body})
def input_applyToBody (w0 : World_) (x1 : Input) : Option (World_ × Int) :=
 Rx.Bind (world_FindBody w0 x1.ID) fun r1573 =>
 Let (decide (r1573 < (0:Int))) fun x1574 =>
 if x1574 = true then
 some
 (zW_,
 (8:Int))
 else
 Chk ((0:Int) ≤ r1573 ∧ r1573 < (↑w0.Bodies.length : Int))
 (Let (ix w0.Bodies r1573) fun x1575 =>
 Rx.Bind (input_checkBody x1575 x1) fun r1576 =>
 Let (r1576 != (0:Int)) fun x1577 =>
 if x1577 = true then
 some
 (zW_,
 r1576)
 else
 Rx.Bind (world_Clone w0) fun r1578 =>
 Chk ((0:Int) ≤ r1573 ∧ r1573 < (↑r1578.Bodies.length : Int))
 (Chk ((0:Int) ≤ r1573 ∧ r1573 < (↑r1578.Bodies.length : Int))
 (Let (ix r1578.Bodies r1573) fun x1579 =>
 Rx.Bind (input_changed x1579 x1) fun r1580 =>
 Chk ((0:Int) ≤ r1573 ∧ r1573 < (↑r1578.Bodies.length : Int))
 (Chk ((0:Int) ≤ r1573 ∧ r1573 < (↑r1578.Bodies.length : Int))
 (Let (r1578.Bodies.set r1573.toNat r1580) fun x1581 =>
 Rx.Bind
 (world_WakeBody
 {Settings := r1578.Settings, Bodies := x1581, Joints := r1578.Joints, Contacts := r1578.Contacts, Overlaps := r1578.Overlaps, NextID := r1578.NextID, Frame := r1578.Frame:World_}
 x1.ID)
 fun r1582 => some (r1582, (0:Int)))))))
def input_Apply (w0 : World_) (x1 : Input) : Option (World_ × Int × Int) :=
 Rx.Bind (world_Validate w0) fun r1583 =>
 Let (r1583 != (0:Int)) fun x1584 =>
 if x1584 = true then
 some
 (zW_,
 (0:Int), (18:Int))
 else
 Rx.Bind (input_Validate x1) fun r1585 =>
 Let (r1585 != (0:Int)) fun x1586 =>
 if x1586 = true then
 some
 (zW_,
 (0:Int), r1585)
 else
 Let (x1.Kind == (9:Int)) fun x1587 =>
 if x1587 = true then Rx.Bind (world_AddBody w0 x1.Body) fun r1588 => some r1588
 else
 Let (x1.Kind == (11:Int)) fun x1589 =>
 if x1589 = true then Rx.Bind (world_AddJoint w0 x1.Joint) fun r1590 => some r1590
 else
 Let (x1.Kind == (10:Int)) fun x1591 =>
 if x1591 = true then
 Rx.Bind (world_RemoveBody w0 x1.ID) fun r1592 => some (r1592.fst, (0:Int), r1592.snd)
 else
 Let (x1.Kind == (12:Int)) fun x1593 =>
 if x1593 = true then
 Rx.Bind (world_RemoveJoint w0 x1.ID) fun r1594 => some (r1594.fst, (0:Int), r1594.snd)
 else
 Join
 (fun (v1595 : Bool) =>
 if v1595 = true then
 Rx.Bind (input_applyToJoint w0 x1) fun r1596 => some (r1596.fst, (0:Int), r1596.snd)
 else Rx.Bind (input_applyToBody w0 x1) fun r1597 => some (r1597.fst, (0:Int), r1597.snd))
 fun (j1598 : Bool → Option (World_ × Int × Int)) =>
 Let (x1.Kind == (7:Int)) fun x1599 =>
 if x1599 = true then j1598 x1599 else Let (x1.Kind == (8:Int)) fun x1600 => j1598 x1600
def caromlaw43_example  : Option Bool :=
 Rx.Bind
 (input_Apply
 {Settings := {TimeStep := (1024:Int), Gravity := {X:=(0:Int), Y:=(0:Int):Vec}, Iterations := (1:Int), SleepSteps:=(0:Int):Settings}, Bodies := [{ID := (1:Int), Kind := (1:Int), Transform := {Position := {X:=(0:Int), Y:=(0:Int):Vec}, Angle:=(0:Int):Transform}, Velocity := {X:=(0:Int), Y:=(0:Int):Vec}, AngularVelocity:=(0:Int), Force := {X:=(0:Int), Y:=(0:Int):Vec}, Torque:=(0:Int), LinearDamping:=(0:Int), AngularDamping:=(0:Int), GravityScale:=(0:Int), Bullet:=false, FixedRotation:=false, NoSleep:=false, Asleep:=false, IdleSteps:=(0:Int), Fixtures:=[]:Body}, {ID := (2:Int), Kind := (3:Int), Transform := {Position := {X:=(0:Int), Y:=(0:Int):Vec}, Angle:=(0:Int):Transform}, Velocity := {X:=(0:Int), Y:=(0:Int):Vec}, AngularVelocity:=(0:Int), Force := {X:=(0:Int), Y:=(0:Int):Vec}, Torque:=(0:Int), LinearDamping:=(0:Int), AngularDamping:=(0:Int), GravityScale:=(0:Int), Bullet:=false, FixedRotation:=false, NoSleep:=false, Asleep := true, IdleSteps:=(0:Int), Fixtures:=[]:Body}], Joints:=[], Contacts:=[], Overlaps:=[], NextID := (3:Int), Frame:=(0:Int):World_}
 {Kind := (5:Int), ID := (1:Int), Vec := {X:=(0:Int), Y:=(0:Int):Vec}, Value:=(0:Int), Body := {ID:=(0:Int), Kind:=(0:Int), Transform := {Position := {X:=(0:Int), Y:=(0:Int):Vec}, Angle:=(0:Int):Transform}, Velocity := {X:=(0:Int), Y:=(0:Int):Vec}, AngularVelocity:=(0:Int), Force := {X:=(0:Int), Y:=(0:Int):Vec}, Torque:=(0:Int), LinearDamping:=(0:Int), AngularDamping:=(0:Int), GravityScale:=(0:Int), Bullet:=false, FixedRotation:=false, NoSleep:=false, Asleep:=false, IdleSteps:=(0:Int), Fixtures:=[]:Body}, Joint := {ID:=(0:Int), Kind:=(0:Int), BodyA:=(0:Int), BodyB:=(0:Int), AnchorA := {X:=(0:Int), Y:=(0:Int):Vec}, AnchorB := {X:=(0:Int), Y:=(0:Int):Vec}, Axis := {X:=(0:Int), Y:=(0:Int):Vec}, ReferenceAngle:=(0:Int), EnableLimit:=false, Lower:=(0:Int), Upper:=(0:Int), EnableMotor:=false, MotorSpeed:=(0:Int), MaxForce:=(0:Int), Softness:=(0:Int), BreakForce:=(0:Int), CollideConnected:=false, Impulses := ((0:Int), (0:Int), (0:Int), (0:Int)):Joint}:Input})
 fun r1601 =>
 Rx.Bind
 (input_Apply
 {Settings := {TimeStep := (1024:Int), Gravity := {X:=(0:Int), Y:=(0:Int):Vec}, Iterations := (1:Int), SleepSteps:=(0:Int):Settings}, Bodies := [{ID := (1:Int), Kind := (1:Int), Transform := {Position := {X:=(0:Int), Y:=(0:Int):Vec}, Angle:=(0:Int):Transform}, Velocity := {X:=(0:Int), Y:=(0:Int):Vec}, AngularVelocity:=(0:Int), Force := {X:=(0:Int), Y:=(0:Int):Vec}, Torque:=(0:Int), LinearDamping:=(0:Int), AngularDamping:=(0:Int), GravityScale:=(0:Int), Bullet:=false, FixedRotation:=false, NoSleep:=false, Asleep:=false, IdleSteps:=(0:Int), Fixtures:=[]:Body}, {ID := (2:Int), Kind := (3:Int), Transform := {Position := {X:=(0:Int), Y:=(0:Int):Vec}, Angle:=(0:Int):Transform}, Velocity := {X:=(0:Int), Y:=(0:Int):Vec}, AngularVelocity:=(0:Int), Force := {X:=(0:Int), Y:=(0:Int):Vec}, Torque:=(0:Int), LinearDamping:=(0:Int), AngularDamping:=(0:Int), GravityScale:=(0:Int), Bullet:=false, FixedRotation:=false, NoSleep:=false, Asleep := true, IdleSteps:=(0:Int), Fixtures:=[]:Body}], Joints:=[], Contacts:=[], Overlaps:=[], NextID := (3:Int), Frame:=(0:Int):World_}
 {Kind := (5:Int), ID := (2:Int), Vec := {X := (5:Int), Y:=(0:Int):Vec}, Value := (7:Int), Body := {ID:=(0:Int), Kind:=(0:Int), Transform := {Position := {X:=(0:Int), Y:=(0:Int):Vec}, Angle:=(0:Int):Transform}, Velocity := {X:=(0:Int), Y:=(0:Int):Vec}, AngularVelocity:=(0:Int), Force := {X:=(0:Int), Y:=(0:Int):Vec}, Torque:=(0:Int), LinearDamping:=(0:Int), AngularDamping:=(0:Int), GravityScale:=(0:Int), Bullet:=false, FixedRotation:=false, NoSleep:=false, Asleep:=false, IdleSteps:=(0:Int), Fixtures:=[]:Body}, Joint := {ID:=(0:Int), Kind:=(0:Int), BodyA:=(0:Int), BodyB:=(0:Int), AnchorA := {X:=(0:Int), Y:=(0:Int):Vec}, AnchorB := {X:=(0:Int), Y:=(0:Int):Vec}, Axis := {X:=(0:Int), Y:=(0:Int):Vec}, ReferenceAngle:=(0:Int), EnableLimit:=false, Lower:=(0:Int), Upper:=(0:Int), EnableMotor:=false, MotorSpeed:=(0:Int), MaxForce:=(0:Int), Softness:=(0:Int), BreakForce:=(0:Int), CollideConnected:=false, Impulses := ((0:Int), (0:Int), (0:Int), (0:Int)):Joint}:Input})
 fun r1602 =>
 Rx.Bind
 (input_Apply
 {Settings := {TimeStep := (1024:Int), Gravity := {X:=(0:Int), Y:=(0:Int):Vec}, Iterations := (1:Int), SleepSteps:=(0:Int):Settings}, Bodies := [{ID := (1:Int), Kind := (1:Int), Transform := {Position := {X:=(0:Int), Y:=(0:Int):Vec}, Angle:=(0:Int):Transform}, Velocity := {X:=(0:Int), Y:=(0:Int):Vec}, AngularVelocity:=(0:Int), Force := {X:=(0:Int), Y:=(0:Int):Vec}, Torque:=(0:Int), LinearDamping:=(0:Int), AngularDamping:=(0:Int), GravityScale:=(0:Int), Bullet:=false, FixedRotation:=false, NoSleep:=false, Asleep:=false, IdleSteps:=(0:Int), Fixtures:=[]:Body}, {ID := (2:Int), Kind := (3:Int), Transform := {Position := {X:=(0:Int), Y:=(0:Int):Vec}, Angle:=(0:Int):Transform}, Velocity := {X:=(0:Int), Y:=(0:Int):Vec}, AngularVelocity:=(0:Int), Force := {X:=(0:Int), Y:=(0:Int):Vec}, Torque:=(0:Int), LinearDamping:=(0:Int), AngularDamping:=(0:Int), GravityScale:=(0:Int), Bullet:=false, FixedRotation:=false, NoSleep:=false, Asleep := true, IdleSteps:=(0:Int), Fixtures:=[]:Body}], Joints:=[], Contacts:=[], Overlaps:=[], NextID := (3:Int), Frame:=(0:Int):World_}
 {Kind := (6:Int), ID := (3:Int), Vec := {X:=(0:Int), Y:=(0:Int):Vec}, Value:=(0:Int), Body := {ID:=(0:Int), Kind:=(0:Int), Transform := {Position := {X:=(0:Int), Y:=(0:Int):Vec}, Angle:=(0:Int):Transform}, Velocity := {X:=(0:Int), Y:=(0:Int):Vec}, AngularVelocity:=(0:Int), Force := {X:=(0:Int), Y:=(0:Int):Vec}, Torque:=(0:Int), LinearDamping:=(0:Int), AngularDamping:=(0:Int), GravityScale:=(0:Int), Bullet:=false, FixedRotation:=false, NoSleep:=false, Asleep:=false, IdleSteps:=(0:Int), Fixtures:=[]:Body}, Joint := {ID:=(0:Int), Kind:=(0:Int), BodyA:=(0:Int), BodyB:=(0:Int), AnchorA := {X:=(0:Int), Y:=(0:Int):Vec}, AnchorB := {X:=(0:Int), Y:=(0:Int):Vec}, Axis := {X:=(0:Int), Y:=(0:Int):Vec}, ReferenceAngle:=(0:Int), EnableLimit:=false, Lower:=(0:Int), Upper:=(0:Int), EnableMotor:=false, MotorSpeed:=(0:Int), MaxForce:=(0:Int), Softness:=(0:Int), BreakForce:=(0:Int), CollideConnected:=false, Impulses := ((0:Int), (0:Int), (0:Int), (0:Int)):Joint}:Input})
 fun r1603 =>
 Let (r1601.snd.snd == (10:Int)) fun x1604 =>
 Let (r1602.snd.snd == (0:Int)) fun x1605 =>
 Let (bif x1604 then x1605 else false) fun x1606 =>
 Let (r1602.snd.fst == (0:Int)) fun x1607 =>
 Let (bif x1606 then x1607 else false) fun x1608 =>
 Let (↑r1602.fst.Bodies.length : Int) fun x1609 =>
 Let (x1609 == (2:Int)) fun x1610 =>
 Let (bif x1608 then x1610 else false) fun x1611 =>
 Chk ((x1611 == true) = true → (0:Int) ≤ (1:Int) ∧ (1:Int) < (↑r1602.fst.Bodies.length : Int))
 (Let (ix r1602.fst.Bodies (1:Int)) fun x1612 =>
 Let (x1612.Velocity.X == (5:Int)) fun x1613 =>
 Let (bif x1611 then x1613 else false) fun x1614 =>
 Chk ((x1614 == true) = true → (0:Int) ≤ (1:Int) ∧ (1:Int) < (↑r1602.fst.Bodies.length : Int))
 (Let (ix r1602.fst.Bodies (1:Int)) fun x1615 =>
 Let (x1615.AngularVelocity == (7:Int)) fun x1616 =>
 Let (bif x1614 then x1616 else false) fun x1617 =>
 Chk ((x1617 == true) = true → (0:Int) ≤ (1:Int) ∧ (1:Int) < (↑r1602.fst.Bodies.length : Int))
 (Let (ix r1602.fst.Bodies (1:Int)) fun x1618 =>
 Let (!x1618.Asleep) fun x1619 =>
 Let (bif x1617 then x1619 else false) fun x1620 =>
 Let (r1603.snd.snd == (8:Int)) fun x1621 =>
 Let (bif x1620 then x1621 else false) fun x1622 =>
 Rx.Bind
 (if (x1622 == true) = true then
 input_Validate
 {Kind := (6:Int), ID := (1:Int), Vec := {X:=(0:Int), Y:=(0:Int):Vec}, Value := (1:Int), Body := {ID:=(0:Int), Kind:=(0:Int), Transform := {Position := {X:=(0:Int), Y:=(0:Int):Vec}, Angle:=(0:Int):Transform}, Velocity := {X:=(0:Int), Y:=(0:Int):Vec}, AngularVelocity:=(0:Int), Force := {X:=(0:Int), Y:=(0:Int):Vec}, Torque:=(0:Int), LinearDamping:=(0:Int), AngularDamping:=(0:Int), GravityScale:=(0:Int), Bullet:=false, FixedRotation:=false, NoSleep:=false, Asleep:=false, IdleSteps:=(0:Int), Fixtures:=[]:Body}, Joint := {ID:=(0:Int), Kind:=(0:Int), BodyA:=(0:Int), BodyB:=(0:Int), AnchorA := {X:=(0:Int), Y:=(0:Int):Vec}, AnchorB := {X:=(0:Int), Y:=(0:Int):Vec}, Axis := {X:=(0:Int), Y:=(0:Int):Vec}, ReferenceAngle:=(0:Int), EnableLimit:=false, Lower:=(0:Int), Upper:=(0:Int), EnableMotor:=false, MotorSpeed:=(0:Int), MaxForce:=(0:Int), Softness:=(0:Int), BreakForce:=(0:Int), CollideConnected:=false, Impulses := ((0:Int), (0:Int), (0:Int), (0:Int)):Joint}:Input}
 else some default)
 fun r1623 =>
 Let (r1623 == (3:Int)) fun x1624 => Let (bif x1622 then x1624 else false) fun x1625 => some x1625)))
def caromref43_UsedFields (k0 : Int) : Option (Bool × Bool × Bool) :=
 Join
 (fun (v1626 : Bool) =>
 if v1626 = true then some (true, true, false)
 else
 Join
 (fun (v1627 : Bool) =>
 if v1627 = true then some (true, false, true)
 else
 Join
 (fun (v1628 : Bool) =>
 if v1628 = true then some (true, true, true)
 else
 Join (fun (v1629 : Bool) => if v1629 = true then some (true, false, false) else some (false, false, false))
 fun (j1630 : Bool → Option (Bool × Bool × Bool)) =>
 Let (k0 == (6:Int)) fun x1631 =>
 if x1631 = true then j1630 x1631
 else
 Let (k0 == (10:Int)) fun x1632 =>
 if x1632 = true then j1630 x1632 else Let (k0 == (12:Int)) fun x1633 => j1630 x1633)
 fun (j1634 : Bool → Option (Bool × Bool × Bool)) =>
 Let (k0 == (4:Int)) fun x1635 =>
 if x1635 = true then j1634 x1635 else Let (k0 == (5:Int)) fun x1636 => j1634 x1636)
 fun (j1637 : Bool → Option (Bool × Bool × Bool)) =>
 Let (k0 == (3:Int)) fun x1638 =>
 if x1638 = true then j1637 x1638 else Let (k0 == (8:Int)) fun x1639 => j1637 x1639)
 fun (j1640 : Bool → Option (Bool × Bool × Bool)) =>
 Let (k0 == (1:Int)) fun x1641 =>
 if x1641 = true then j1640 x1641
 else
 Let (k0 == (2:Int)) fun x1642 =>
 if x1642 = true then j1640 x1642 else Let (k0 == (7:Int)) fun x1643 => j1640 x1643
def caromref43_unsaturated (n0 : Int) : Option Bool :=
 Let (decide (n0 < (-536870911:Int))) fun x1644 =>
 Let (decide (n0 > (536870911:Int))) fun x1645 =>
 Let (bif x1644 then true else x1645) fun x1646 => some x1646
def caromref12_EqualVecs (a0 : (List Vec)) (b1 : (List Vec)) : Option Bool :=
 Let (↑a0.length : Int) fun x1647 =>
 Let (↑b1.length : Int) fun x1648 =>
 Let (x1647 != x1648) fun x1649 =>
 if x1649 = true then some false
 else
 LOOP
 (fun (rec1650 : Int → Option Bool) (s1651 : Int) =>
 Let (↑a0.length : Int) fun x1652 =>
 Let (decide (s1651 < x1652)) fun x1653 =>
 if x1653 = true then
 Chk ((0:Int) ≤ s1651 ∧ s1651 < (↑a0.length : Int))
 (Let (ix a0 s1651) fun x1654 =>
 Chk ((0:Int) ≤ s1651 ∧ s1651 < (↑b1.length : Int))
 (Let (ix b1 s1651) fun x1655 =>
 Let (!(decide (x1654.X = x1655.X) && decide (x1654.Y = x1655.Y))) fun x1656 =>
 if x1656 = true then some false else Let (IntKind.i64.wrap (s1651 + (1:Int))) fun x1657 => rec1650 x1657))
 else some true)
 fuel (0:Int)
def caromref12_Equal (a0 : Shape) (b1 : Shape) : Option Bool :=
 Let (a0.Kind == b1.Kind) fun x1658 =>
 Let (a0.Radius == b1.Radius) fun x1659 =>
 Let (bif x1658 then x1659 else false) fun x1660 =>
 Rx.Bind (if (x1660 == true) = true then caromref12_EqualVecs a0.Vertices b1.Vertices else some default)
 fun r1661 => Let (bif x1660 then r1661 else false) fun x1662 => some x1662
def caromref23_EqualFixture (a0 : Fixture) (b1 : Fixture) : Option Bool :=
 Rx.Bind (caromref12_Equal a0.Shape b1.Shape) fun r1663 =>
 Let (a0.Density == b1.Density) fun x1664 =>
 Let (bif r1663 then x1664 else false) fun x1665 =>
 Let (a0.Friction == b1.Friction) fun x1666 =>
 Let (bif x1665 then x1666 else false) fun x1667 =>
 Let (a0.Restitution == b1.Restitution) fun x1668 =>
 Let (bif x1667 then x1668 else false) fun x1669 =>
 Let (a0.Sensor == b1.Sensor) fun x1670 =>
 Let (bif x1669 then x1670 else false) fun x1671 =>
 Let (a0.Category == b1.Category) fun x1672 =>
 Let (bif x1671 then x1672 else false) fun x1673 =>
 Let (a0.Mask == b1.Mask) fun x1674 =>
 Let (bif x1673 then x1674 else false) fun x1675 =>
 Let (a0.Group == b1.Group) fun x1676 => Let (bif x1675 then x1676 else false) fun x1677 => some x1677
def caromref23_Equal (a0 : Body) (b1 : Body) : Option Bool :=
 Let (↑a0.Fixtures.length : Int) fun x1678 =>
 Let (↑b1.Fixtures.length : Int) fun x1679 =>
 Let (x1678 != x1679) fun x1680 =>
 if x1680 = true then some false
 else
 LOOP
 (fun (rec1681 : Int → Option Bool) (s1682 : Int) =>
 Let (↑a0.Fixtures.length : Int) fun x1683 =>
 Let (decide (s1682 < x1683)) fun x1684 =>
 Let (↑b1.Fixtures.length : Int) fun x1685 =>
 Let (decide (s1682 < x1685)) fun x1686 =>
 Let (bif x1684 then x1686 else false) fun x1687 =>
 if x1687 = true then
 Chk ((0:Int) ≤ s1682 ∧ s1682 < (↑a0.Fixtures.length : Int))
 (Let (ix a0.Fixtures s1682) fun x1688 =>
 Chk ((0:Int) ≤ s1682 ∧ s1682 < (↑b1.Fixtures.length : Int))
 (Let (ix b1.Fixtures s1682) fun x1689 =>
 Rx.Bind (caromref23_EqualFixture x1688 x1689) fun r1690 =>
 Let (!r1690) fun x1691 =>
 if x1691 = true then some false else Let (IntKind.i64.wrap (s1682 + (1:Int))) fun x1692 => rec1681 x1692))
 else
 Let (a0.ID != b1.ID) fun x1693 =>
 Let (a0.Kind != b1.Kind) fun x1694 =>
 Let (bif x1693 then true else x1694) fun x1695 =>
 Let
 (!(decide (a0.Transform.Position.X = b1.Transform.Position.X) &&
 decide (a0.Transform.Position.Y = b1.Transform.Position.Y) &&
 decide (a0.Transform.Angle = b1.Transform.Angle)))
 fun x1696 =>
 Let (bif x1695 then true else x1696) fun x1697 =>
 Let (!(decide (a0.Velocity.X = b1.Velocity.X) && decide (a0.Velocity.Y = b1.Velocity.Y))) fun x1698 =>
 Let (bif x1697 then true else x1698) fun x1699 =>
 Let (a0.AngularVelocity != b1.AngularVelocity) fun x1700 =>
 Let (bif x1699 then true else x1700) fun x1701 =>
 Let (!(decide (a0.Force.X = b1.Force.X) && decide (a0.Force.Y = b1.Force.Y))) fun x1702 =>
 Let (bif x1701 then true else x1702) fun x1703 =>
 Let (a0.Torque != b1.Torque) fun x1704 =>
 Let (bif x1703 then true else x1704) fun x1705 =>
 if x1705 = true then some false
 else
 Let (a0.LinearDamping == b1.LinearDamping) fun x1706 =>
 Let (a0.AngularDamping == b1.AngularDamping) fun x1707 =>
 Let (bif x1706 then x1707 else false) fun x1708 =>
 Let (a0.GravityScale == b1.GravityScale) fun x1709 =>
 Let (bif x1708 then x1709 else false) fun x1710 =>
 Let (a0.Bullet == b1.Bullet) fun x1711 =>
 Let (bif x1710 then x1711 else false) fun x1712 =>
 Let (a0.FixedRotation == b1.FixedRotation) fun x1713 =>
 Let (bif x1712 then x1713 else false) fun x1714 =>
 Let (a0.NoSleep == b1.NoSleep) fun x1715 =>
 Let (bif x1714 then x1715 else false) fun x1716 =>
 Let (a0.Asleep == b1.Asleep) fun x1717 =>
 Let (bif x1716 then x1717 else false) fun x1718 =>
 Let (a0.IdleSteps == b1.IdleSteps) fun x1719 =>
 Let (bif x1718 then x1719 else false) fun x1720 => some x1720)
 fuel (0:Int)
def caromref43_Validate (x0 : Input) : Option Int :=
 Let (decide (x0.Kind < (1:Int))) fun x1721 =>
 Let (decide (x0.Kind > (12:Int))) fun x1722 =>
 Let (bif x1721 then true else x1722) fun x1723 =>
 if x1723 = true then some (10:Int)
 else
 Rx.Bind (caromref43_UsedFields x0.Kind) fun r1724 =>
 Let (decide (x0.ID < (1:Int))) fun x1725 =>
 Let (decide (x0.ID > (1099511627776:Int))) fun x1726 =>
 Let (bif x1725 then true else x1726) fun x1727 =>
 Let (bif r1724.fst then x1727 else false) fun x1728 =>
 Rx.Bind (if (x1728 == false && r1724.snd.fst == true) = true then caromref43_unsaturated x0.Vec.X else some default)
 fun r1729 =>
 Rx.Bind
 (if (x1728 == false && r1724.snd.fst == true && r1729 == false) = true then caromref43_unsaturated x0.Vec.Y
 else some default)
 fun r1730 =>
 Let (bif r1729 then true else r1730) fun x1731 =>
 Let (bif r1724.snd.fst then x1731 else false) fun x1732 =>
 Let (bif x1728 then true else x1732) fun x1733 =>
 Rx.Bind (if (x1733 == false && r1724.snd.snd == true) = true then caromref43_unsaturated x0.Value else some default)
 fun r1734 =>
 Let (bif r1724.snd.snd then r1734 else false) fun x1735 =>
 Let (bif x1733 then true else x1735) fun x1736 =>
 if x1736 = true then some (6:Int)
 else
 Let (!r1724.fst) fun x1737 =>
 Let (x0.ID != (0:Int)) fun x1738 =>
 Let (bif x1737 then x1738 else false) fun x1739 =>
 Let (!r1724.snd.fst) fun x1740 =>
 Let (!(decide (x0.Vec.X = (0:Int)) && decide (x0.Vec.Y = (0:Int)))) fun x1741 =>
 Let (bif x1740 then x1741 else false) fun x1742 =>
 Let (bif x1739 then true else x1742) fun x1743 =>
 Let (!r1724.snd.snd) fun x1744 =>
 Let (x0.Value != (0:Int)) fun x1745 =>
 Let (bif x1744 then x1745 else false) fun x1746 =>
 Let (bif x1743 then true else x1746) fun x1747 =>
 Let (x0.Kind != (9:Int)) fun x1748 =>
 Rx.Bind
 (if (x1747 == false && x1748 == true) = true then
 caromref23_Equal x0.Body
 {ID:=(0:Int), Kind:=(0:Int), Transform := {Position := {X:=(0:Int), Y:=(0:Int):Vec}, Angle:=(0:Int):Transform}, Velocity := {X:=(0:Int), Y:=(0:Int):Vec}, AngularVelocity:=(0:Int), Force := {X:=(0:Int), Y:=(0:Int):Vec}, Torque:=(0:Int), LinearDamping:=(0:Int), AngularDamping:=(0:Int), GravityScale:=(0:Int), Bullet:=false, FixedRotation:=false, NoSleep:=false, Asleep:=false, IdleSteps:=(0:Int), Fixtures:=[]:Body}
 else some default)
 fun r1749 =>
 Let (!r1749) fun x1750 =>
 Let (bif x1748 then x1750 else false) fun x1751 =>
 Let (bif x1747 then true else x1751) fun x1752 =>
 Let (x0.Kind != (11:Int)) fun x1753 =>
 Let
 (!(decide (x0.Joint.ID = (0:Int)) &&
 (decide (x0.Joint.Kind = (0:Int)) &&
 (decide (x0.Joint.BodyA = (0:Int)) &&
 (decide (x0.Joint.BodyB = (0:Int)) &&
 (decide (x0.Joint.AnchorA.X = (0:Int)) && decide (x0.Joint.AnchorA.Y = (0:Int)) &&
 (decide (x0.Joint.AnchorB.X = (0:Int)) && decide (x0.Joint.AnchorB.Y = (0:Int)) &&
 (decide (x0.Joint.Axis.X = (0:Int)) && decide (x0.Joint.Axis.Y = (0:Int)) &&
 (decide (x0.Joint.ReferenceAngle = (0:Int)) &&
 (decide (x0.Joint.EnableLimit = false) &&
 (decide (x0.Joint.Lower = (0:Int)) &&
 (decide (x0.Joint.Upper = (0:Int)) &&
 (decide (x0.Joint.EnableMotor = false) &&
 (decide (x0.Joint.MotorSpeed = (0:Int)) &&
 (decide (x0.Joint.MaxForce = (0:Int)) &&
 (decide (x0.Joint.Softness = (0:Int)) &&
 (decide (x0.Joint.BreakForce = (0:Int)) &&
 (decide (x0.Joint.CollideConnected = false) &&
 (decide (x0.Joint.Impulses.fst = (0:Int)) &&
 (decide (x0.Joint.Impulses.snd.fst = (0:Int)) &&
 (decide (x0.Joint.Impulses.snd.snd.fst = (0:Int)) &&
 decide (x0.Joint.Impulses.snd.snd.snd = (0:Int)))))))))))))))))))))))
 fun x1754 =>
 Let (bif x1753 then x1754 else false) fun x1755 =>
 Let (bif x1752 then true else x1755) fun x1756 => if x1756 = true then some (3:Int) else some (0:Int)
def caromlaw43_InputValidation (x0 : Input) (k1 : Int) : Option Bool :=
 Rx.Bind (caromlaw43_few [x0]) fun r1757 =>
 Let (!r1757) fun x1758 =>
 if x1758 = true then Rx.Bind caromlaw43_example fun r1759 => some r1759
 else
 Rx.Bind (input_UsedFields k1) fun r1760 =>
 Rx.Bind (caromref43_UsedFields k1) fun r1761 =>
 Rx.Bind (input_Validate x0) fun r1762 =>
 Rx.Bind (caromref43_Validate x0) fun r1763 =>
 Let (r1762 == r1763) fun x1764 =>
 Let (r1760.fst == r1761.fst) fun x1765 =>
 Let (bif x1764 then x1765 else false) fun x1766 =>
 Let (r1760.snd.fst == r1761.snd.fst) fun x1767 =>
 Let (bif x1766 then x1767 else false) fun x1768 =>
 Let (r1760.snd.snd == r1761.snd.snd) fun x1769 =>
 Let (bif x1768 then x1769 else false) fun x1770 =>
 Rx.Bind (if (x1770 == true) = true then caromlaw43_example else some default) fun r1771 =>
 Let (bif x1770 then r1771 else false) fun x1772 => some x1772
def caromref25_Few (w0 : World_) : Option Bool :=
 Let (↑w0.Joints.length : Int) fun x1773 =>
 Let (decide (x1773 > (40:Int))) fun x1774 =>
 Let (↑w0.Contacts.length : Int) fun x1775 =>
 Let (decide (x1775 > (80:Int))) fun x1776 =>
 Let (bif x1774 then true else x1776) fun x1777 =>
 Let (↑w0.Overlaps.length : Int) fun x1778 =>
 Let (decide (x1778 > (80:Int))) fun x1779 =>
 Let (bif x1777 then true else x1779) fun x1780 =>
 Rx.Bind (if (x1780 == false) = true then caromref22_Few w0.Bodies (40:Int) else some default) fun r1781 =>
 Let (!r1781) fun x1782 =>
 Let (bif x1780 then true else x1782) fun x1783 =>
 if x1783 = true then some false
 else
 LOOP
 (fun (rec1784 : Int → Option Bool) (s1785 : Int) =>
 Let (↑w0.Contacts.length : Int) fun x1786 =>
 Let (decide (s1785 < x1786)) fun x1787 =>
 if x1787 = true then
 Chk ((0:Int) ≤ s1785 ∧ s1785 < (↑w0.Contacts.length : Int))
 (Let (ix w0.Contacts s1785) fun x1788 =>
 Let (↑x1788.Manifold.Points.length : Int) fun x1789 =>
 Let (decide (x1789 > (8:Int))) fun x1790 =>
 if x1790 = true then some false else Let (IntKind.i64.wrap (s1785 + (1:Int))) fun x1791 => rec1784 x1791)
 else some true)
 fuel (0:Int)
def caromref25_in (n0 : Int) (low1 : Int) (high2 : Int) : Option Bool :=
 Let (decide (n0 ≥ low1)) fun x1792 =>
 Let (decide (n0 ≤ high2)) fun x1793 => Let (bif x1792 then x1793 else false) fun x1794 => some x1794
def caromref25_ValidateSettings (r0 : Settings) : Option Int :=
 Rx.Bind (caromref25_in r0.TimeStep (64:Int) (8192:Int)) fun r1795 =>
 Let (!r1795) fun x1796 =>
 Rx.Bind
 (if (x1796 == false) = true then caromref25_in r0.Gravity.X (-16777216:Int) (16777216:Int) else some default)
 fun r1797 =>
 Let (!r1797) fun x1798 =>
 Let (bif x1796 then true else x1798) fun x1799 =>
 Rx.Bind
 (if (x1799 == false) = true then caromref25_in r0.Gravity.Y (-16777216:Int) (16777216:Int) else some default)
 fun r1800 =>
 Let (!r1800) fun x1801 =>
 Let (bif x1799 then true else x1801) fun x1802 =>
 Rx.Bind (if (x1802 == false) = true then caromref25_in r0.Iterations (1:Int) (32:Int) else some default)
 fun r1803 =>
 Let (!r1803) fun x1804 =>
 Let (bif x1802 then true else x1804) fun x1805 =>
 Rx.Bind (if (x1805 == false) = true then caromref25_in r0.SleepSteps (0:Int) (1048576:Int) else some default)
 fun r1806 =>
 Let (!r1806) fun x1807 =>
 Let (bif x1805 then true else x1807) fun x1808 => if x1808 = true then some (6:Int) else some (0:Int)
def caromref23_in (x0 : Int) (low1 : Int) (high2 : Int) : Option Bool :=
 Let (decide (x0 ≥ low1)) fun x1809 =>
 Let (decide (x0 ≤ high2)) fun x1810 => Let (bif x1809 then x1810 else false) fun x1811 => some x1811
def caromref04_outside (x0 : Int) : Option Bool :=
 Let (decide (x0 < (-268435456:Int))) fun x1812 =>
 Let (decide (x0 > (268435456:Int))) fun x1813 =>
 Let (bif x1812 then true else x1813) fun x1814 => some x1814
def caromref04_Valid (p0 : Transform) : Option Bool :=
 Rx.Bind (caromref04_outside p0.Position.X) fun r1815 =>
 Let (!r1815) fun x1816 =>
 Rx.Bind (if (x1816 == true) = true then caromref04_outside p0.Position.Y else some default) fun r1817 =>
 Let (!r1817) fun x1818 =>
 Let (bif x1816 then x1818 else false) fun x1819 =>
 Let (decide (p0.Angle ≥ (-205888:Int))) fun x1820 =>
 Let (bif x1819 then x1820 else false) fun x1821 =>
 Let (decide (p0.Angle < (205888:Int))) fun x1822 =>
 Let (bif x1821 then x1822 else false) fun x1823 => some x1823
def caromref23_inRange (b0 : Body) : Option Bool :=
 Rx.Bind (caromref23_in b0.ID (1:Int) (1099511627776:Int)) fun r1824 =>
 Let (!r1824) fun x1825 =>
 Rx.Bind (if (x1825 == false) = true then caromref04_Valid b0.Transform else some default) fun r1826 =>
 Let (!r1826) fun x1827 =>
 Let (bif x1825 then true else x1827) fun x1828 =>
 Rx.Bind
 (if (x1828 == false) = true then caromref23_in b0.Velocity.X (-16777216:Int) (16777216:Int) else some default)
 fun r1829 =>
 Let (!r1829) fun x1830 =>
 Let (bif x1828 then true else x1830) fun x1831 =>
 Rx.Bind
 (if (x1831 == false) = true then caromref23_in b0.Velocity.Y (-16777216:Int) (16777216:Int) else some default)
 fun r1832 =>
 Let (!r1832) fun x1833 =>
 Let (bif x1831 then true else x1833) fun x1834 =>
 Rx.Bind
 (if (x1834 == false) = true then caromref23_in b0.AngularVelocity (-4194304:Int) (4194304:Int) else some default)
 fun r1835 =>
 Let (!r1835) fun x1836 =>
 Let (bif x1834 then true else x1836) fun x1837 =>
 if x1837 = true then some false
 else
 Rx.Bind (caromref23_in b0.Force.X (-536870911:Int) (536870911:Int)) fun r1838 =>
 Let (!r1838) fun x1839 =>
 Rx.Bind
 (if (x1839 == false) = true then caromref23_in b0.Force.Y (-536870911:Int) (536870911:Int) else some default)
 fun r1840 =>
 Let (!r1840) fun x1841 =>
 Let (bif x1839 then true else x1841) fun x1842 =>
 Rx.Bind (if (x1842 == false) = true then caromref23_in b0.Torque (-536870911:Int) (536870911:Int) else some default)
 fun r1843 =>
 Let (!r1843) fun x1844 =>
 Let (bif x1842 then true else x1844) fun x1845 =>
 if x1845 = true then some false
 else
 Rx.Bind (caromref23_in b0.LinearDamping (0:Int) (65536:Int)) fun r1846 =>
 Rx.Bind (if (r1846 == true) = true then caromref23_in b0.AngularDamping (0:Int) (65536:Int) else some default)
 fun r1847 =>
 Let (bif r1846 then r1847 else false) fun x1848 =>
 Rx.Bind (if (x1848 == true) = true then caromref23_in b0.GravityScale (-262144:Int) (262144:Int) else some default)
 fun r1849 =>
 Let (bif x1848 then r1849 else false) fun x1850 =>
 Rx.Bind (if (x1850 == true) = true then caromref23_in b0.IdleSteps (0:Int) (1048576:Int) else some default)
 fun r1851 => Let (bif x1850 then r1851 else false) fun x1852 => some x1852
def caromref12_countMatches (s0 : Shape) : Option Bool :=
 Let (↑s0.Vertices.length : Int) fun x1853 =>
 Let (s0.Kind == (3:Int)) fun x1854 =>
 if x1854 = true then
 Let (decide (x1853 ≥ (3:Int))) fun x1855 =>
 Let (decide (x1853 ≤ (8:Int))) fun x1856 =>
 Let (bif x1855 then x1856 else false) fun x1857 => some x1857
 else Let (x1853 == s0.Kind) fun x1858 => some x1858
def caromref12_within (x0 : Int) (m1 : Int) : Option Bool :=
 Let (IntKind.i64.wrap ((0:Int) - m1)) fun x1859 =>
 Let (decide (x0 ≥ x1859)) fun x1860 =>
 Let (decide (x0 ≤ m1)) fun x1861 => Let (bif x1860 then x1861 else false) fun x1862 => some x1862
def caromref01_Saturate (x0 : Int) : Option Int :=
 Let (decide (x0 > (536870911:Int))) fun x1863 =>
 if x1863 = true then some (536870911:Int)
 else
 Let (decide (x0 < (-536870911:Int))) fun x1864 => if x1864 = true then some (-536870911:Int) else some x0
def caromref01_Sub (a0 : Int) (b1 : Int) : Option Int :=
 Rx.Bind (caromref01_Saturate a0) fun r1865 =>
 Rx.Bind (caromref01_Saturate b1) fun r1866 =>
 Let (IntKind.i64.wrap (r1865 - r1866)) fun x1867 =>
 Rx.Bind (caromref01_Saturate x1867) fun r1868 => some r1868
def caromref03_Sub (a0 : Vec) (b1 : Vec) : Option Vec :=
 Rx.Bind (caromref01_Sub a0.X b1.X) fun r1869 =>
 Rx.Bind (caromref01_Sub a0.Y b1.Y) fun r1870 => some {X := r1869, Y := r1870:Vec}
def caromref03_Saturated (v0 : Vec) : Option Vec :=
 Rx.Bind (caromref01_Saturate v0.X) fun r1871 =>
 Rx.Bind (caromref01_Saturate v0.Y) fun r1872 => some {X := r1871, Y := r1872:Vec}
def caromref01_outOfRange (n0 : Int) : Option Bool :=
 Let (decide (n0 > (4611686018427387904:Int))) fun x1873 =>
 Let (decide (n0 < (-4611686018427387904:Int))) fun x1874 =>
 Let (bif x1873 then true else x1874) fun x1875 => some x1875
def caromref01_Isqrt (n0 : Int) : Option Int :=
 Let (decide (n0 < (0:Int))) fun x1876 =>
 Rx.Bind (if (x1876 == false) = true then caromref01_outOfRange n0 else some default) fun r1877 =>
 Let (bif x1876 then true else r1877) fun x1878 =>
 if x1878 = true then some (0:Int)
 else
 LOOP
 (fun (rec1879 : Int × Int → Option Int) (s1880 : Int × Int) =>
 Let (decide (s1880.snd > (0:Int))) fun x1881 =>
 if x1881 = true then
 Join
 (fun (v1882 : Int) => Let (IntKind.i64.wrap (Int.tdiv s1880.snd (2:Int))) fun x1883 => rec1879 (v1882, x1883))
 fun (j1884 : Int → Option Int) =>
 Let (IntKind.i64.wrap (s1880.fst + s1880.snd)) fun x1885 =>
 Let (IntKind.i64.wrap (s1880.fst + s1880.snd)) fun x1886 =>
 Chk (x1886 ≠ (0:Int))
 (Let (IntKind.i64.wrap (n0.tdiv x1886)) fun x1887 =>
 Let (decide (x1885 ≤ x1887)) fun x1888 =>
 if x1888 = true then Let (IntKind.i64.wrap (s1880.fst + s1880.snd)) fun x1889 => j1884 x1889
 else j1884 s1880.fst)
 else some s1880.fst)
 fuel ((0:Int), (2147483648:Int))
def caromref03_Length (v0 : Vec) : Option Int :=
 Rx.Bind (caromref03_Saturated v0) fun r1890 =>
 Let (IntKind.i64.wrap (r1890.X * r1890.X)) fun x1891 =>
 Let (IntKind.i64.wrap (r1890.Y * r1890.Y)) fun x1892 =>
 Let (IntKind.i64.wrap (x1891 + x1892)) fun x1893 =>
 Rx.Bind (caromref01_Isqrt x1893) fun r1894 => some r1894
def caromref11_inRange (v0 : Vec) : Option Bool :=
 Let (decide (v0.X ≥ (-1048576:Int))) fun x1895 =>
 Let (decide (v0.X ≤ (1048576:Int))) fun x1896 =>
 Let (bif x1895 then x1896 else false) fun x1897 =>
 Let (decide (v0.Y ≥ (-1048576:Int))) fun x1898 =>
 Let (bif x1897 then x1898 else false) fun x1899 =>
 Let (decide (v0.Y ≤ (1048576:Int))) fun x1900 =>
 Let (bif x1899 then x1900 else false) fun x1901 => some x1901
def caromref03_Orientation (a0 : Vec) (b1 : Vec) (c2 : Vec) : Option Int :=
 Rx.Bind (caromref03_Saturated a0) fun r1902 =>
 Rx.Bind (caromref03_Saturated b1) fun r1903 =>
 Rx.Bind (caromref03_Saturated c2) fun r1904 =>
 Let (IntKind.i64.wrap (r1903.X - r1902.X)) fun x1905 =>
 Let (IntKind.i64.wrap (r1904.Y - r1902.Y)) fun x1906 =>
 Let (IntKind.i64.wrap (x1905 * x1906)) fun x1907 =>
 Let (IntKind.i64.wrap (r1903.Y - r1902.Y)) fun x1908 =>
 Let (IntKind.i64.wrap (r1904.X - r1902.X)) fun x1909 =>
 Let (IntKind.i64.wrap (x1908 * x1909)) fun x1910 =>
 Let (IntKind.i64.wrap (x1907 - x1910)) fun x1911 =>
 Let (decide (x1911 > (0:Int))) fun x1912 =>
 if x1912 = true then some (1:Int)
 else Let (decide (x1911 < (0:Int))) fun x1913 => if x1913 = true then some (-1:Int) else some (0:Int)
def caromref11_IsConvex (vertices0 : (List Vec)) : Option Bool :=
 Let (↑vertices0.length : Int) fun x1914 =>
 Let (decide (x1914 < (3:Int))) fun x1915 =>
 Let (decide (x1914 > (8:Int))) fun x1916 =>
 Let (bif x1915 then true else x1916) fun x1917 =>
 if x1917 = true then some false
 else
 LOOP
 (fun (rec1918 : Int → Option Bool) (s1919 : Int) =>
 Let (decide (s1919 < x1914)) fun x1920 =>
 if x1920 = true then
 Chk ((0:Int) ≤ s1919 ∧ s1919 < (↑vertices0.length : Int))
 (Let (ix vertices0 s1919) fun x1921 =>
 Rx.Bind (caromref11_inRange x1921) fun r1922 =>
 Let (!r1922) fun x1923 =>
 if x1923 = true then some false else Let (IntKind.i64.wrap (s1919 + (1:Int))) fun x1924 => rec1918 x1924)
 else
 LOOP
 (fun (rec1925 : Int → Option Bool) (s1926 : Int) =>
 Let (decide (s1926 < x1914)) fun x1927 =>
 if x1927 = true then
 Let (IntKind.i64.wrap (s1926 + (1:Int))) fun x1928 =>
 Chk (x1914 ≠ (0:Int))
 (Let (x1928.tmod x1914) fun x1929 =>
 LOOP
 (fun (rec1930 : Int → Option Bool) (s1931 : Int) =>
 Let (decide (s1931 < x1914)) fun x1932 =>
 if x1932 = true then
 Let (s1931 != s1926) fun x1933 =>
 Let (s1931 != x1929) fun x1934 =>
 Let (bif x1933 then x1934 else false) fun x1935 =>
 Chk ((x1935 == true) = true → (0:Int) ≤ s1926 ∧ s1926 < (↑vertices0.length : Int))
 (Let (ix vertices0 s1926) fun x1936 =>
 Chk ((x1935 == true) = true → (0:Int) ≤ x1929 ∧ x1929 < (↑vertices0.length : Int))
 (Let (ix vertices0 x1929) fun x1937 =>
 Chk ((x1935 == true) = true → (0:Int) ≤ s1931 ∧ s1931 < (↑vertices0.length : Int))
 (Let (ix vertices0 s1931) fun x1938 =>
 Rx.Bind (if (x1935 == true) = true then caromref03_Orientation x1936 x1937 x1938 else some default) fun r1939 =>
 Let (r1939 != (1:Int)) fun x1940 =>
 Let (bif x1935 then x1940 else false) fun x1941 =>
 if x1941 = true then some false else Let (IntKind.i64.wrap (s1931 + (1:Int))) fun x1942 => rec1930 x1942)))
 else Let (IntKind.i64.wrap (s1926 + (1:Int))) fun x1943 => rec1925 x1943)
 fuel (0:Int))
 else some true)
 fuel (0:Int))
 fuel (0:Int)
def caromref11_ShortestEdge (vertices0 : (List Vec)) : Option Int :=
 Rx.Bind (caromref11_IsConvex vertices0) fun r1944 =>
 Let (!r1944) fun x1945 =>
 if x1945 = true then some (0:Int)
 else
 LOOP
 (fun (rec1946 : Int × Int → Option Int) (s1947 : Int × Int) =>
 Let (↑vertices0.length : Int) fun x1948 =>
 Let (decide (s1947.snd < x1948)) fun x1949 =>
 if x1949 = true then
 Join (fun (v1950 : Int) => Let (IntKind.i64.wrap (s1947.snd + (1:Int))) fun x1951 => rec1946 (v1950, x1951))
 fun (j1952 : Int → Option Int) =>
 Let (IntKind.i64.wrap (s1947.snd + (1:Int))) fun x1953 =>
 Let (↑vertices0.length : Int) fun x1954 =>
 Chk (x1954 ≠ (0:Int))
 (Let (x1953.tmod x1954) fun x1955 =>
 Chk ((0:Int) ≤ x1955 ∧ x1955 < (↑vertices0.length : Int))
 (Let (ix vertices0 x1955) fun x1956 =>
 Chk ((0:Int) ≤ s1947.snd ∧ s1947.snd < (↑vertices0.length : Int))
 (Let (ix vertices0 s1947.snd) fun x1957 =>
 Rx.Bind (caromref03_Sub x1956 x1957) fun r1958 =>
 Rx.Bind (caromref03_Length r1958) fun r1959 =>
 Let (decide (s1947.fst < (0:Int))) fun x1960 =>
 Let (decide (r1959 < s1947.fst)) fun x1961 =>
 Let (bif x1960 then true else x1961) fun x1962 => if x1962 = true then j1952 r1959 else j1952 s1947.fst)))
 else some s1947.fst)
 fuel ((-1:Int), (0:Int))
def caromref01_RoundDiv (n0 : Int) (d1 : Int) : Option Int :=
 Let (decide (d1 < (1:Int))) fun x1963 =>
 Rx.Bind (if (x1963 == false) = true then caromref01_outOfRange d1 else some default) fun r1964 =>
 Let (bif x1963 then true else r1964) fun x1965 =>
 Rx.Bind (if (x1965 == false) = true then caromref01_outOfRange n0 else some default) fun r1966 =>
 Let (bif x1965 then true else r1966) fun x1967 =>
 if x1967 = true then some (0:Int)
 else
 Join
 (fun (v1968 : Int) =>
 Chk (d1 ≠ (0:Int))
 (Let (IntKind.i64.wrap (v1968.tdiv d1)) fun x1969 =>
 Let (IntKind.i64.wrap (x1969 * d1)) fun x1970 =>
 Let (IntKind.i64.wrap (v1968 - x1970)) fun x1971 =>
 Join
 (fun (v1972 : Int) =>
 Let (decide (n0 < (0:Int))) fun x1973 =>
 if x1973 = true then Let (IntKind.i64.wrap ((0:Int) - v1972)) fun x1974 => some x1974 else some v1972)
 fun (j1975 : Int → Option Int) =>
 Let (IntKind.i64.wrap (d1 - x1971)) fun x1976 =>
 Let (decide (x1971 ≥ x1976)) fun x1977 =>
 if x1977 = true then Let (IntKind.i64.wrap (x1969 + (1:Int))) fun x1978 => j1975 x1978 else j1975 x1969))
 fun (j1979 : Int → Option Int) =>
 Let (decide (n0 < (0:Int))) fun x1980 =>
 if x1980 = true then Let (IntKind.i64.wrap ((0:Int) - n0)) fun x1981 => j1979 x1981 else j1979 n0
def caromref11_cross (v0 : (List Vec)) (i1 : Int) : Option Int :=
 Chk ((0:Int) ≤ i1 ∧ i1 < (↑v0.length : Int))
 (Let (ix v0 i1) fun x1982 =>
 Chk ((0:Int) ≤ (0:Int) ∧ (0:Int) < (↑v0.length : Int))
 (Let (ix v0 (0:Int)) fun x1983 =>
 Let (IntKind.i64.wrap (x1982.X - x1983.X)) fun x1984 =>
 Chk ((0:Int) ≤ i1 ∧ i1 < (↑v0.length : Int))
 (Let (ix v0 i1) fun x1985 =>
 Chk ((0:Int) ≤ (0:Int) ∧ (0:Int) < (↑v0.length : Int))
 (Let (ix v0 (0:Int)) fun x1986 =>
 Let (IntKind.i64.wrap (x1985.Y - x1986.Y)) fun x1987 =>
 Let (IntKind.i64.wrap (i1 + (1:Int))) fun x1988 =>
 Chk ((0:Int) ≤ x1988 ∧ x1988 < (↑v0.length : Int))
 (Let (ix v0 x1988) fun x1989 =>
 Chk ((0:Int) ≤ (0:Int) ∧ (0:Int) < (↑v0.length : Int))
 (Let (ix v0 (0:Int)) fun x1990 =>
 Let (IntKind.i64.wrap (x1989.X - x1990.X)) fun x1991 =>
 Let (IntKind.i64.wrap (i1 + (1:Int))) fun x1992 =>
 Chk ((0:Int) ≤ x1992 ∧ x1992 < (↑v0.length : Int))
 (Let (ix v0 x1992) fun x1993 =>
 Chk ((0:Int) ≤ (0:Int) ∧ (0:Int) < (↑v0.length : Int))
 (Let (ix v0 (0:Int)) fun x1994 =>
 Let (IntKind.i64.wrap (x1993.Y - x1994.Y)) fun x1995 =>
 Let (IntKind.i64.wrap (x1984 * x1995)) fun x1996 =>
 Let (IntKind.i64.wrap (x1987 * x1991)) fun x1997 =>
 Let (IntKind.i64.wrap (x1996 - x1997)) fun x1998 =>
 Rx.Bind (caromref01_RoundDiv x1998 (65536:Int)) fun r1999 => some r1999))))))))
def caromref11_Area (vertices0 : (List Vec)) : Option Int :=
 Rx.Bind (caromref11_IsConvex vertices0) fun r2000 =>
 Let (!r2000) fun x2001 =>
 if x2001 = true then some (0:Int)
 else
 LOOP
 (fun (rec2002 : Int × Int → Option Int) (s2003 : Int × Int) =>
 Let (IntKind.i64.wrap (s2003.snd + (1:Int))) fun x2004 =>
 Let (↑vertices0.length : Int) fun x2005 =>
 Let (decide (x2004 < x2005)) fun x2006 =>
 if x2006 = true then
 Rx.Bind (caromref11_cross vertices0 s2003.snd) fun r2007 =>
 Let (IntKind.i64.wrap (s2003.fst + r2007)) fun x2008 =>
 Let (IntKind.i64.wrap (s2003.snd + (1:Int))) fun x2009 => rec2002 (x2008, x2009)
 else Rx.Bind (caromref01_RoundDiv s2003.fst (2:Int)) fun r2010 => some r2010)
 fuel ((0:Int), (1:Int))
def caromref12_Validate (s0 : Shape) : Option Int :=
 Let (decide (s0.Kind < (1:Int))) fun x2011 =>
 Let (decide (s0.Kind > (3:Int))) fun x2012 =>
 Let (bif x2011 then true else x2012) fun x2013 =>
 if x2013 = true then some (10:Int)
 else
 Rx.Bind (caromref12_countMatches s0) fun r2014 =>
 Let (!r2014) fun x2015 =>
 if x2015 = true then some (11:Int)
 else
 LOOP
 (fun (rec2016 : Int → Option Int) (s2017 : Int) =>
 Let (↑s0.Vertices.length : Int) fun x2018 =>
 Let (decide (s2017 < x2018)) fun x2019 =>
 if x2019 = true then
 Chk ((0:Int) ≤ s2017 ∧ s2017 < (↑s0.Vertices.length : Int))
 (Let (ix s0.Vertices s2017) fun x2020 =>
 Rx.Bind (caromref12_within x2020.X (1048576:Int)) fun r2021 =>
 Let (!r2021) fun x2022 =>
 Chk ((x2022 == false) = true → (0:Int) ≤ s2017 ∧ s2017 < (↑s0.Vertices.length : Int))
 (Let (ix s0.Vertices s2017) fun x2023 =>
 Rx.Bind (if (x2022 == false) = true then caromref12_within x2023.Y (1048576:Int) else some default)
 fun r2024 =>
 Let (!r2024) fun x2025 =>
 Let (bif x2022 then true else x2025) fun x2026 =>
 if x2026 = true then some (6:Int) else Let (IntKind.i64.wrap (s2017 + (1:Int))) fun x2027 => rec2016 x2027))
 else
 Let (s0.Kind == (3:Int)) fun x2028 =>
 Let (s0.Radius != (0:Int)) fun x2029 =>
 Let (bif x2028 then x2029 else false) fun x2030 =>
 Let (s0.Kind != (3:Int)) fun x2031 =>
 Let (decide (s0.Radius < (2048:Int))) fun x2032 =>
 Let (decide (s0.Radius > (524288:Int))) fun x2033 =>
 Let (bif x2032 then true else x2033) fun x2034 =>
 Let (bif x2031 then x2034 else false) fun x2035 =>
 Let (bif x2030 then true else x2035) fun x2036 =>
 if x2036 = true then some (6:Int)
 else
 Let (s0.Kind == (2:Int)) fun x2037 =>
 Chk ((x2037 == true) = true → (0:Int) ≤ (1:Int) ∧ (1:Int) < (↑s0.Vertices.length : Int))
 (Let (ix s0.Vertices (1:Int)) fun x2038 =>
 Chk ((x2037 == true) = true → (0:Int) ≤ (0:Int) ∧ (0:Int) < (↑s0.Vertices.length : Int))
 (Let (ix s0.Vertices (0:Int)) fun x2039 =>
 Rx.Bind (if (x2037 == true) = true then caromref03_Sub x2038 x2039 else some {X := default, Y := default:Vec})
 fun r2040 =>
 Rx.Bind (if (x2037 == true) = true then caromref03_Length r2040 else some default) fun r2041 =>
 Let (decide (r2041 < (4096:Int))) fun x2042 =>
 Let (bif x2037 then x2042 else false) fun x2043 =>
 if x2043 = true then some (12:Int)
 else
 Let (s0.Kind == (3:Int)) fun x2044 =>
 Rx.Bind (if (x2044 == true) = true then caromref11_IsConvex s0.Vertices else some default) fun r2045 =>
 Let (!r2045) fun x2046 =>
 Rx.Bind (if (x2044 == true && x2046 == false) = true then caromref11_ShortestEdge s0.Vertices else some default)
 fun r2047 =>
 Let (decide (r2047 < (4096:Int))) fun x2048 =>
 Let (bif x2046 then true else x2048) fun x2049 =>
 Rx.Bind (if (x2044 == true && x2049 == false) = true then caromref11_Area s0.Vertices else some default)
 fun r2050 =>
 Let (decide (r2050 < (256:Int))) fun x2051 =>
 Let (bif x2049 then true else x2051) fun x2052 =>
 Let (bif x2044 then x2052 else false) fun x2053 => if x2053 = true then some (12:Int) else some (0:Int))))
 fuel (0:Int)
def caromref23_ValidateFixture (f0 : Fixture) : Option Int :=
 Rx.Bind (caromref12_Validate f0.Shape) fun r2054 =>
 Let (r2054 != (0:Int)) fun x2055 =>
 if x2055 = true then some r2054
 else
 Rx.Bind (caromref23_in f0.Density (0:Int) (262144:Int)) fun r2056 =>
 Let (!r2056) fun x2057 =>
 Rx.Bind (if (x2057 == false) = true then caromref23_in f0.Friction (0:Int) (131072:Int) else some default)
 fun r2058 =>
 Let (!r2058) fun x2059 =>
 Let (bif x2057 then true else x2059) fun x2060 =>
 Rx.Bind (if (x2060 == false) = true then caromref23_in f0.Restitution (0:Int) (65536:Int) else some default)
 fun r2061 =>
 Let (!r2061) fun x2062 =>
 Let (bif x2060 then true else x2062) fun x2063 =>
 Rx.Bind (if (x2063 == false) = true then caromref23_in f0.Category (0:Int) (65535:Int) else some default)
 fun r2064 =>
 Let (!r2064) fun x2065 =>
 Let (bif x2063 then true else x2065) fun x2066 =>
 Rx.Bind (if (x2066 == false) = true then caromref23_in f0.Mask (0:Int) (65535:Int) else some default)
 fun r2067 =>
 Let (!r2067) fun x2068 =>
 Let (bif x2066 then true else x2068) fun x2069 =>
 Rx.Bind (if (x2069 == false) = true then caromref23_in f0.Group (-32:Int) (32:Int) else some default)
 fun r2070 =>
 Let (!r2070) fun x2071 =>
 Let (bif x2069 then true else x2071) fun x2072 => if x2072 = true then some (6:Int) else some (0:Int)
def caromref23_Validate (b0 : Body) : Option Int :=
 Let (b0.Kind != (1:Int)) fun x2073 =>
 Let (b0.Kind != (2:Int)) fun x2074 =>
 Let (bif x2073 then x2074 else false) fun x2075 =>
 Let (b0.Kind != (3:Int)) fun x2076 =>
 Let (bif x2075 then x2076 else false) fun x2077 =>
 if x2077 = true then some (10:Int)
 else
 Rx.Bind (caromref23_inRange b0) fun r2078 =>
 Let (!r2078) fun x2079 =>
 if x2079 = true then some (6:Int)
 else
 Let (↑b0.Fixtures.length : Int) fun x2080 =>
 Let (decide (x2080 > (4:Int))) fun x2081 =>
 if x2081 = true then some (11:Int)
 else
 LOOP
 (fun (rec2082 : Int → Option Int) (s2083 : Int) =>
 Let (↑b0.Fixtures.length : Int) fun x2084 =>
 Let (decide (s2083 < x2084)) fun x2085 =>
 if x2085 = true then
 Chk ((0:Int) ≤ s2083 ∧ s2083 < (↑b0.Fixtures.length : Int))
 (Let (ix b0.Fixtures s2083) fun x2086 =>
 Rx.Bind (caromref23_ValidateFixture x2086) fun r2087 =>
 Let (r2087 != (0:Int)) fun x2088 =>
 if x2088 = true then some (13:Int) else Let (IntKind.i64.wrap (s2083 + (1:Int))) fun x2089 => rec2082 x2089)
 else
 Let (!(decide (b0.Velocity.X = (0:Int)) && decide (b0.Velocity.Y = (0:Int)))) fun x2090 =>
 Let (b0.AngularVelocity != (0:Int)) fun x2091 =>
 Let (bif x2090 then true else x2091) fun x2092 =>
 Let (!(decide (b0.Force.X = (0:Int)) && decide (b0.Force.Y = (0:Int)))) fun x2093 =>
 Let (b0.Torque != (0:Int)) fun x2094 =>
 Let (bif x2093 then true else x2094) fun x2095 =>
 Let (b0.Kind == (1:Int)) fun x2096 =>
 Let (bif x2092 then true else x2095) fun x2097 =>
 Let (bif x2096 then x2097 else false) fun x2098 =>
 Let (b0.Kind != (3:Int)) fun x2099 =>
 Let (bif b0.Asleep then true else b0.Bullet) fun x2100 =>
 Let (bif x2099 then x2100 else false) fun x2101 =>
 Let (bif x2098 then true else x2101) fun x2102 =>
 Let (bif b0.Asleep then x2092 else false) fun x2103 =>
 Let (bif x2102 then true else x2103) fun x2104 => if x2104 = true then some (14:Int) else some (0:Int))
 fuel (0:Int)
def caromref25_validBodies (w0 : World_) : Option Bool :=
 LOOP
 (fun (rec2105 : Int × Int → Option Bool) (s2106 : Int × Int) =>
 Let (↑w0.Bodies.length : Int) fun x2107 =>
 Let (decide (s2106.snd < x2107)) fun x2108 =>
 if x2108 = true then
 Chk ((0:Int) ≤ s2106.snd ∧ s2106.snd < (↑w0.Bodies.length : Int))
 (Let (ix w0.Bodies s2106.snd) fun x2109 =>
 Rx.Bind (caromref23_Validate x2109) fun r2110 =>
 Let (r2110 != (0:Int)) fun x2111 =>
 Let (decide (x2109.ID ≥ w0.NextID)) fun x2112 =>
 Let (bif x2111 then true else x2112) fun x2113 =>
 Let (decide (s2106.snd > (0:Int))) fun x2114 =>
 Let (decide (x2109.ID ≤ s2106.fst)) fun x2115 =>
 Let (bif x2114 then x2115 else false) fun x2116 =>
 Let (bif x2113 then true else x2116) fun x2117 =>
 if x2117 = true then some false
 else Let (IntKind.i64.wrap (s2106.snd + (1:Int))) fun x2118 => rec2105 (x2109.ID, x2118))
 else some true)
 fuel ((0:Int), (0:Int))
def caromref24_inRange (x0 : Int) (low1 : Int) (high2 : Int) : Option Bool :=
 Let (decide (x0 ≥ low1)) fun x2119 =>
 Let (decide (x0 ≤ high2)) fun x2120 => Let (bif x2119 then x2120 else false) fun x2121 => some x2121
def caromref24_inSquare (v0 : Vec) (m1 : Int) : Option Bool :=
 Let (IntKind.i64.wrap ((0:Int) - m1)) fun x2122 =>
 Rx.Bind (caromref24_inRange v0.X x2122 m1) fun r2123 =>
 Let (IntKind.i64.wrap ((0:Int) - m1)) fun x2124 =>
 Rx.Bind (if (r2123 == true) = true then caromref24_inRange v0.Y x2124 m1 else some default) fun r2125 =>
 Let (bif r2123 then r2125 else false) fun x2126 => some x2126
def caromref24_limitsValid (j0 : Joint) : Option Bool :=
 Rx.Bind (caromref24_inRange j0.Lower (-268435456:Int) (268435456:Int)) fun r2127 =>
 Let (!r2127) fun x2128 =>
 Rx.Bind
 (if (x2128 == false) = true then caromref24_inRange j0.Upper (-268435456:Int) (268435456:Int) else some default)
 fun r2129 =>
 Let (!r2129) fun x2130 =>
 Let (bif x2128 then true else x2130) fun x2131 =>
 Let (decide (j0.Lower > j0.Upper)) fun x2132 =>
 Let (bif x2131 then true else x2132) fun x2133 =>
 if x2133 = true then some false
 else
 Let (j0.Kind == (1:Int)) fun x2134 =>
 if x2134 = true then Let (decide (j0.Lower ≥ (0:Int))) fun x2135 => some x2135
 else
 Let (j0.Kind != (2:Int)) fun x2136 =>
 Let (decide (j0.Lower ≥ (-205888:Int))) fun x2137 =>
 Let (decide (j0.Upper ≤ (205888:Int))) fun x2138 =>
 Let (bif x2137 then x2138 else false) fun x2139 =>
 Let (bif x2136 then true else x2139) fun x2140 => some x2140
def caromref24_rangesValid (j0 : Joint) : Option Bool :=
 Join
 (fun (v2141 : Int) =>
 LOOP
 (fun (rec2142 : Int → Option Bool) (s2143 : Int) =>
 Let (decide (s2143 < (4:Int))) fun x2144 =>
 if x2144 = true then
 Chk ((0:Int) ≤ s2143 ∧ s2143 < (↑(4:Nat) : Int))
 (Chk
 ((0:Int) ≤ s2143 ∧
 s2143 < (↑[j0.Impulses.fst, j0.Impulses.snd.fst, j0.Impulses.snd.snd.fst, j0.Impulses.snd.snd.snd].length : Int))
 (Let (ix [j0.Impulses.fst, j0.Impulses.snd.fst, j0.Impulses.snd.snd.fst, j0.Impulses.snd.snd.snd] s2143)
 fun x2145 =>
 Rx.Bind (caromref24_inRange x2145 (-536870911:Int) (536870911:Int)) fun r2146 =>
 Let (!r2146) fun x2147 =>
 if x2147 = true then some false else Let (IntKind.i64.wrap (s2143 + (1:Int))) fun x2148 => rec2142 x2148))
 else
 Rx.Bind (caromref24_inRange j0.ID (1:Int) (1099511627776:Int)) fun r2149 =>
 Let (!r2149) fun x2150 =>
 Rx.Bind (if (x2150 == false) = true then caromref24_inSquare j0.AnchorA v2141 else some default) fun r2151 =>
 Let (!r2151) fun x2152 =>
 Let (bif x2150 then true else x2152) fun x2153 =>
 Rx.Bind (if (x2153 == false) = true then caromref24_inSquare j0.AnchorB (1048576:Int) else some default)
 fun r2154 =>
 Let (!r2154) fun x2155 =>
 Let (bif x2153 then true else x2155) fun x2156 =>
 Rx.Bind
 (if (x2156 == false) = true then caromref24_inRange j0.ReferenceAngle (-205888:Int) (205887:Int) else some default)
 fun r2157 =>
 Let (!r2157) fun x2158 =>
 Let (bif x2156 then true else x2158) fun x2159 =>
 Rx.Bind (if (x2159 == false) = true then caromref24_limitsValid j0 else some default) fun r2160 =>
 Let (!r2160) fun x2161 =>
 Let (bif x2159 then true else x2161) fun x2162 =>
 if x2162 = true then some false
 else
 Rx.Bind (caromref24_inRange j0.MotorSpeed (-16777216:Int) (16777216:Int)) fun r2163 =>
 Rx.Bind (if (r2163 == true) = true then caromref24_inRange j0.MaxForce (0:Int) (536870911:Int) else some default)
 fun r2164 =>
 Let (bif r2163 then r2164 else false) fun x2165 =>
 Rx.Bind (if (x2165 == true) = true then caromref24_inRange j0.Softness (0:Int) (536870911:Int) else some default)
 fun r2166 =>
 Let (bif x2165 then r2166 else false) fun x2167 =>
 Rx.Bind (if (x2167 == true) = true then caromref24_inRange j0.BreakForce (0:Int) (536870911:Int) else some default)
 fun r2168 => Let (bif x2167 then r2168 else false) fun x2169 => some x2169)
 fuel (0:Int))
 fun (j2170 : Int → Option Bool) =>
 Let (j0.Kind == (5:Int)) fun x2171 => if x2171 = true then j2170 (268435456:Int) else j2170 (1048576:Int)
def caromref24_Validate (j0 : Joint) : Option Int :=
 Let (decide (j0.Kind < (1:Int))) fun x2172 =>
 Let (decide (j0.Kind > (5:Int))) fun x2173 =>
 Let (bif x2172 then true else x2173) fun x2174 =>
 if x2174 = true then some (10:Int)
 else
 Rx.Bind (caromref24_rangesValid j0) fun r2175 =>
 Let (!r2175) fun x2176 =>
 if x2176 = true then some (6:Int)
 else
 Rx.Bind (caromref24_inRange j0.BodyB (1:Int) (1099511627776:Int)) fun r2177 =>
 Let (!r2177) fun x2178 =>
 Let (j0.Kind == (5:Int)) fun x2179 =>
 Let (j0.BodyA != (0:Int)) fun x2180 =>
 Let (bif x2179 then x2180 else false) fun x2181 =>
 Let (bif x2178 then true else x2181) fun x2182 =>
 Let (j0.Kind != (5:Int)) fun x2183 =>
 Rx.Bind
 (if (x2182 == false && x2183 == true) = true then caromref24_inRange j0.BodyA (1:Int) (1099511627776:Int)
 else some default)
 fun r2184 =>
 Let (!r2184) fun x2185 =>
 Let (j0.BodyA == j0.BodyB) fun x2186 =>
 Let (bif x2185 then true else x2186) fun x2187 =>
 Let (bif x2183 then x2187 else false) fun x2188 =>
 Let (bif x2182 then true else x2188) fun x2189 =>
 if x2189 = true then some (14:Int)
 else
 Let (decide (j0.Axis.X = (0:Int)) && decide (j0.Axis.Y = (0:Int))) fun x2190 =>
 Let (j0.Kind == (3:Int)) fun x2191 =>
 Rx.Bind (if (x2191 == true) = true then caromref03_Length j0.Axis else some default) fun r2192 =>
 Rx.Bind (if (x2191 == true) = true then caromref24_inRange r2192 (65520:Int) (65552:Int) else some default)
 fun r2193 =>
 Let (!r2193) fun x2194 =>
 Let (bif x2191 then x2194 else false) fun x2195 =>
 Let (j0.Kind != (3:Int)) fun x2196 =>
 Let (!x2190) fun x2197 =>
 Let (bif x2196 then x2197 else false) fun x2198 =>
 Let (bif x2195 then true else x2198) fun x2199 =>
 if x2199 = true then some (15:Int)
 else
 Let (j0.Kind == (1:Int)) fun x2200 =>
 Let (j0.Kind == (4:Int)) fun x2201 =>
 Let (j0.Kind == (5:Int)) fun x2202 =>
 Let (bif x2201 then true else x2202) fun x2203 =>
 Let (bif x2200 then true else x2203) fun x2204 =>
 Let (bif x2204 then j0.EnableMotor else false) fun x2205 =>
 Let (bif x2203 then j0.EnableLimit else false) fun x2206 =>
 Let (bif x2205 then true else x2206) fun x2207 =>
 Let (!j0.EnableLimit) fun x2208 =>
 Let (bif x2200 then x2208 else false) fun x2209 =>
 Let (bif x2207 then true else x2209) fun x2210 => if x2210 = true then some (15:Int) else some (0:Int)
def caromref25_FindBody (w0 : World_) (id1 : Int) : Option Int :=
 LOOP
 (fun (rec2211 : Int → Option Int) (s2212 : Int) =>
 Let (↑w0.Bodies.length : Int) fun x2213 =>
 Let (decide (s2212 < x2213)) fun x2214 =>
 if x2214 = true then
 Chk ((0:Int) ≤ s2212 ∧ s2212 < (↑w0.Bodies.length : Int))
 (Let (ix w0.Bodies s2212) fun x2215 =>
 Let (x2215.ID == id1) fun x2216 =>
 if x2216 = true then some s2212 else Let (IntKind.i64.wrap (s2212 + (1:Int))) fun x2217 => rec2211 x2217)
 else some (-1:Int))
 fuel (0:Int)
def caromref25_connected (w0 : World_) (j1 : Joint) : Option Bool :=
 Let (j1.BodyA == (0:Int)) fun x2218 =>
 Rx.Bind (if (x2218 == false) = true then caromref25_FindBody w0 j1.BodyA else some default) fun r2219 =>
 Let (decide (r2219 ≥ (0:Int))) fun x2220 =>
 Let (bif x2218 then true else x2220) fun x2221 =>
 Let (j1.BodyB == (0:Int)) fun x2222 =>
 Rx.Bind (if (x2221 == true && x2222 == false) = true then caromref25_FindBody w0 j1.BodyB else some default)
 fun r2223 =>
 Let (decide (r2223 ≥ (0:Int))) fun x2224 =>
 Let (bif x2222 then true else x2224) fun x2225 =>
 Let (bif x2221 then x2225 else false) fun x2226 => some x2226
def caromref25_validJoints (w0 : World_) : Option Bool :=
 LOOP
 (fun (rec2227 : Int × Int → Option Bool) (s2228 : Int × Int) =>
 Let (↑w0.Joints.length : Int) fun x2229 =>
 Let (decide (s2228.snd < x2229)) fun x2230 =>
 if x2230 = true then
 Chk ((0:Int) ≤ s2228.snd ∧ s2228.snd < (↑w0.Joints.length : Int))
 (Let (ix w0.Joints s2228.snd) fun x2231 =>
 Rx.Bind (caromref24_Validate x2231) fun r2232 =>
 Let (r2232 != (0:Int)) fun x2233 =>
 Let (decide (x2231.ID ≥ w0.NextID)) fun x2234 =>
 Let (bif x2233 then true else x2234) fun x2235 =>
 Let (decide (s2228.snd > (0:Int))) fun x2236 =>
 Let (decide (x2231.ID ≤ s2228.fst)) fun x2237 =>
 Let (bif x2236 then x2237 else false) fun x2238 =>
 Let (bif x2235 then true else x2238) fun x2239 =>
 Rx.Bind (if (x2239 == false) = true then caromref25_connected w0 x2231 else some default) fun r2240 =>
 Let (!r2240) fun x2241 =>
 Let (bif x2239 then true else x2241) fun x2242 =>
 Rx.Bind (if (x2242 == false) = true then caromref25_FindBody w0 x2231.ID else some default) fun r2243 =>
 Let (decide (r2243 ≥ (0:Int))) fun x2244 =>
 Let (bif x2242 then true else x2244) fun x2245 =>
 if x2245 = true then some false
 else Let (IntKind.i64.wrap (s2228.snd + (1:Int))) fun x2246 => rec2227 (x2231.ID, x2246))
 else some true)
 fuel ((0:Int), (0:Int))
def caromref25_Keys (l0 : (List Contact)) : Option (List PairKey) :=
 LOOP
 (fun (rec2247 : List PairKey × Int → Option (List PairKey)) (s2248 : List PairKey × Int) =>
 Let (↑l0.length : Int) fun x2249 =>
 Let (decide (s2248.snd < x2249)) fun x2250 =>
 if x2250 = true then
 Chk ((0:Int) ≤ s2248.snd ∧ s2248.snd < (↑l0.length : Int))
 (Let (ix l0 s2248.snd) fun x2251 =>
 Chk ((List.length s2248.fst + [x2251.Key].length) * (32:Nat) ≤ (140737488355328:Nat))
 (Let (s2248.fst ++ [x2251.Key]) fun x2252 =>
 Let (IntKind.i64.wrap (s2248.snd + (1:Int))) fun x2253 => rec2247 (x2252, x2253)))
 else some s2248.fst)
 fuel ([], (0:Int))
def caromref22_Less (a0 : PairKey) (b1 : PairKey) : Option Bool :=
 Let (a0.BodyA != b1.BodyA) fun x2254 =>
 if x2254 = true then Let (decide (a0.BodyA < b1.BodyA)) fun x2255 => some x2255
 else
 Let (a0.FixtureA != b1.FixtureA) fun x2256 =>
 if x2256 = true then Let (decide (a0.FixtureA < b1.FixtureA)) fun x2257 => some x2257
 else
 Let (a0.BodyB != b1.BodyB) fun x2258 =>
 if x2258 = true then Let (decide (a0.BodyB < b1.BodyB)) fun x2259 => some x2259
 else Let (decide (a0.FixtureB < b1.FixtureB)) fun x2260 => some x2260
def caromref22_ValidKeys (l0 : (List PairKey)) : Option Bool :=
 LOOP
 (fun (rec2261 : Int → Option Bool) (s2262 : Int) =>
 Let (↑l0.length : Int) fun x2263 =>
 Let (decide (s2262 < x2263)) fun x2264 =>
 if x2264 = true then
 Chk ((0:Int) ≤ s2262 ∧ s2262 < (↑l0.length : Int))
 (Let (ix l0 s2262) fun x2265 =>
 Let (decide (x2265.BodyA ≥ x2265.BodyB)) fun x2266 =>
 Let (decide (x2265.FixtureA < (0:Int))) fun x2267 =>
 Let (bif x2266 then true else x2267) fun x2268 =>
 Let (decide (x2265.FixtureA > (3:Int))) fun x2269 =>
 Let (bif x2268 then true else x2269) fun x2270 =>
 Let (decide (x2265.FixtureB < (0:Int))) fun x2271 =>
 Let (bif x2270 then true else x2271) fun x2272 =>
 Let (decide (x2265.FixtureB > (3:Int))) fun x2273 =>
 Let (bif x2272 then true else x2273) fun x2274 =>
 Let (decide (s2262 > (0:Int))) fun x2275 =>
 Let (IntKind.i64.wrap (s2262 - (1:Int))) fun x2276 =>
 Chk ((x2274 == false && x2275 == true) = true → (0:Int) ≤ x2276 ∧ x2276 < (↑l0.length : Int))
 (Let (ix l0 x2276) fun x2277 =>
 Rx.Bind (if (x2274 == false && x2275 == true) = true then caromref22_Less x2277 x2265 else some default)
 fun r2278 =>
 Let (!r2278) fun x2279 =>
 Let (bif x2275 then x2279 else false) fun x2280 =>
 Let (bif x2274 then true else x2280) fun x2281 =>
 if x2281 = true then some false else Let (IntKind.i64.wrap (s2262 + (1:Int))) fun x2282 => rec2261 x2282))
 else some true)
 fuel (0:Int)
def caromref25_exists (w0 : World_) (id1 : Int) (n2 : Int) : Option Bool :=
 Rx.Bind (caromref25_FindBody w0 id1) fun r2283 =>
 Let (decide (r2283 ≥ (0:Int))) fun x2284 =>
 Let (decide (n2 ≥ (0:Int))) fun x2285 =>
 Let (bif x2284 then x2285 else false) fun x2286 =>
 Chk ((x2286 == true) = true → (0:Int) ≤ r2283 ∧ r2283 < (↑w0.Bodies.length : Int))
 (Let (ix w0.Bodies r2283) fun x2287 =>
 Let (↑x2287.Fixtures.length : Int) fun x2288 =>
 Let (decide (n2 < x2288)) fun x2289 => Let (bif x2286 then x2289 else false) fun x2290 => some x2290)
def caromref25_resolved (w0 : World_) (l1 : (List PairKey)) : Option Bool :=
 LOOP
 (fun (rec2291 : Int → Option Bool) (s2292 : Int) =>
 Let (↑l1.length : Int) fun x2293 =>
 Let (decide (s2292 < x2293)) fun x2294 =>
 if x2294 = true then
 Chk ((0:Int) ≤ s2292 ∧ s2292 < (↑l1.length : Int))
 (Let (ix l1 s2292) fun x2295 =>
 Chk ((0:Int) ≤ s2292 ∧ s2292 < (↑l1.length : Int))
 (Let (ix l1 s2292) fun x2296 =>
 Rx.Bind (caromref25_exists w0 x2295.BodyA x2296.FixtureA) fun r2297 =>
 Let (!r2297) fun x2298 =>
 Chk ((x2298 == false) = true → (0:Int) ≤ s2292 ∧ s2292 < (↑l1.length : Int))
 (Let (ix l1 s2292) fun x2299 =>
 Chk ((x2298 == false) = true → (0:Int) ≤ s2292 ∧ s2292 < (↑l1.length : Int))
 (Let (ix l1 s2292) fun x2300 =>
 Rx.Bind (if (x2298 == false) = true then caromref25_exists w0 x2299.BodyB x2300.FixtureB else some default)
 fun r2301 =>
 Let (!r2301) fun x2302 =>
 Let (bif x2298 then true else x2302) fun x2303 =>
 if x2303 = true then some false else Let (IntKind.i64.wrap (s2292 + (1:Int))) fun x2304 => rec2291 x2304))))
 else some true)
 fuel (0:Int)
def caromref25_saturated (v0 : Vec) : Option Bool :=
 Rx.Bind (caromref25_in v0.X (-536870911:Int) (536870911:Int)) fun r2305 =>
 Rx.Bind (if (r2305 == true) = true then caromref25_in v0.Y (-536870911:Int) (536870911:Int) else some default)
 fun r2306 => Let (bif r2305 then r2306 else false) fun x2307 => some x2307
def caromref25_validPoints (m0 : Manifold) : Option Bool :=
 Let (↑m0.Points.length : Int) fun x2308 =>
 Let (decide (x2308 < (1:Int))) fun x2309 =>
 Let (decide (x2308 > (2:Int))) fun x2310 =>
 Let (bif x2309 then true else x2310) fun x2311 =>
 Let (x2308 == (2:Int)) fun x2312 =>
 Chk ((x2311 == false && x2312 == true) = true → (0:Int) ≤ (0:Int) ∧ (0:Int) < (↑m0.Points.length : Int))
 (Let (ix m0.Points (0:Int)) fun x2313 =>
 Chk ((x2311 == false && x2312 == true) = true → (0:Int) ≤ (1:Int) ∧ (1:Int) < (↑m0.Points.length : Int))
 (Let (ix m0.Points (1:Int)) fun x2314 =>
 Let (x2313.ID == x2314.ID) fun x2315 =>
 Let (bif x2312 then x2315 else false) fun x2316 =>
 Let (bif x2311 then true else x2316) fun x2317 =>
 Rx.Bind (if (x2317 == false) = true then caromref25_saturated m0.Normal else some default) fun r2318 =>
 Let (!r2318) fun x2319 =>
 Let (bif x2317 then true else x2319) fun x2320 =>
 if x2320 = true then some false
 else
 LOOP
 (fun (rec2321 : Int → Option Bool) (s2322 : Int) =>
 Let (decide (s2322 < x2308)) fun x2323 =>
 if x2323 = true then
 Chk ((0:Int) ≤ s2322 ∧ s2322 < (↑m0.Points.length : Int))
 (Let (ix m0.Points s2322) fun x2324 =>
 Rx.Bind (caromref25_in x2324.NormalImpulse (0:Int) (536870911:Int)) fun r2325 =>
 Let (!r2325) fun x2326 =>
 Rx.Bind
 (if (x2326 == false) = true then caromref25_in x2324.TangentImpulse (-536870911:Int) (536870911:Int)
 else some default)
 fun r2327 =>
 Let (!r2327) fun x2328 =>
 Let (bif x2326 then true else x2328) fun x2329 =>
 Rx.Bind (if (x2329 == false) = true then caromref25_saturated x2324.Point else some default) fun r2330 =>
 Let (!r2330) fun x2331 =>
 Let (bif x2329 then true else x2331) fun x2332 =>
 Rx.Bind
 (if (x2332 == false) = true then caromref25_saturated {X := x2324.Separation, Y := x2324.ID:Vec} else some default)
 fun r2333 =>
 Let (!r2333) fun x2334 =>
 Let (bif x2332 then true else x2334) fun x2335 =>
 if x2335 = true then some false else Let (IntKind.i64.wrap (s2322 + (1:Int))) fun x2336 => rec2321 x2336)
 else some true)
 fuel (0:Int)))
def caromref25_validContacts (w0 : World_) : Option Bool :=
 Rx.Bind (caromref25_Keys w0.Contacts) fun r2337 =>
 Rx.Bind (caromref22_ValidKeys r2337) fun r2338 =>
 Let (!r2338) fun x2339 =>
 Rx.Bind (if (x2339 == false) = true then caromref22_ValidKeys w0.Overlaps else some default) fun r2340 =>
 Let (!r2340) fun x2341 =>
 Let (bif x2339 then true else x2341) fun x2342 =>
 Rx.Bind (if (x2342 == false) = true then caromref25_resolved w0 r2337 else some default) fun r2343 =>
 Let (!r2343) fun x2344 =>
 Let (bif x2342 then true else x2344) fun x2345 =>
 Rx.Bind (if (x2345 == false) = true then caromref25_resolved w0 w0.Overlaps else some default) fun r2346 =>
 Let (!r2346) fun x2347 =>
 Let (bif x2345 then true else x2347) fun x2348 =>
 if x2348 = true then some false
 else
 LOOP
 (fun (rec2349 : Int → Option Bool) (s2350 : Int) =>
 Let (↑w0.Contacts.length : Int) fun x2351 =>
 Let (decide (s2350 < x2351)) fun x2352 =>
 if x2352 = true then
 Chk ((0:Int) ≤ s2350 ∧ s2350 < (↑w0.Contacts.length : Int))
 (Let (ix w0.Contacts s2350) fun x2353 =>
 Rx.Bind (caromref25_validPoints x2353.Manifold) fun r2354 =>
 Let (!r2354) fun x2355 =>
 if x2355 = true then some false else Let (IntKind.i64.wrap (s2350 + (1:Int))) fun x2356 => rec2349 x2356)
 else some true)
 fuel (0:Int)
def caromref25_Validate (w0 : World_) : Option Int :=
 Rx.Bind (caromref25_ValidateSettings w0.Settings) fun r2357 =>
 Let (r2357 != (0:Int)) fun x2358 =>
 if x2358 = true then some (17:Int)
 else
 Let (↑w0.Bodies.length : Int) fun x2359 =>
 Let (decide (x2359 > (32:Int))) fun x2360 =>
 Let (↑w0.Joints.length : Int) fun x2361 =>
 Let (decide (x2361 > (32:Int))) fun x2362 =>
 Let (bif x2360 then true else x2362) fun x2363 =>
 Let (↑w0.Contacts.length : Int) fun x2364 =>
 Let (decide (x2364 > (8192:Int))) fun x2365 =>
 Let (bif x2363 then true else x2365) fun x2366 =>
 Let (↑w0.Overlaps.length : Int) fun x2367 =>
 Let (decide (x2367 > (8192:Int))) fun x2368 =>
 Let (bif x2366 then true else x2368) fun x2369 =>
 if x2369 = true then some (11:Int)
 else
 Rx.Bind (caromref25_in w0.NextID (1:Int) (1099511627776:Int)) fun r2370 =>
 Let (!r2370) fun x2371 =>
 Rx.Bind (if (x2371 == false) = true then caromref25_in w0.Frame (0:Int) (1099511627776:Int) else some default)
 fun r2372 =>
 Let (!r2372) fun x2373 =>
 Let (bif x2371 then true else x2373) fun x2374 =>
 if x2374 = true then some (6:Int)
 else
 Rx.Bind (caromref25_validBodies w0) fun r2375 =>
 Let (!r2375) fun x2376 =>
 if x2376 = true then some (14:Int)
 else
 Rx.Bind (caromref25_validJoints w0) fun r2377 =>
 Let (!r2377) fun x2378 =>
 if x2378 = true then some (15:Int)
 else
 Rx.Bind (caromref25_validContacts w0) fun r2379 =>
 Let (!r2379) fun x2380 => if x2380 = true then some (16:Int) else some (0:Int)
def caromref12_Clone (s0 : Shape) : Option Shape :=
 Chk (s0.Vertices.length * (16:Nat) ≤ (140737488355328:Nat)) (some s0)
def caromref23_Clone (b0 : Body) : Option Body :=
 LOOP
 (fun (rec2381 : List Fixture × Int → Option Body) (s2382 : List Fixture × Int) =>
 Let (↑b0.Fixtures.length : Int) fun x2383 =>
 Let (decide (s2382.snd < x2383)) fun x2384 =>
 if x2384 = true then
 Chk ((0:Int) ≤ s2382.snd ∧ s2382.snd < (↑b0.Fixtures.length : Int))
 (Let (ix b0.Fixtures s2382.snd) fun x2385 =>
 Rx.Bind (caromref12_Clone x2385.Shape) fun r2386 =>
 Chk
 ((List.length s2382.fst +
 [{Shape := r2386, Density := x2385.Density, Friction := x2385.Friction, Restitution := x2385.Restitution, Sensor := x2385.Sensor, Category := x2385.Category, Mask := x2385.Mask, Group := x2385.Group:Fixture}].length) *
 (96:Nat) ≤
 (140737488355328:Nat))
 (Let
 (s2382.fst ++
 [{Shape := r2386, Density := x2385.Density, Friction := x2385.Friction, Restitution := x2385.Restitution, Sensor := x2385.Sensor, Category := x2385.Category, Mask := x2385.Mask, Group := x2385.Group:Fixture}])
 fun x2387 =>
 Let (IntKind.i64.wrap (s2382.snd + (1:Int))) fun x2388 => rec2381 (x2387, x2388)))
 else
 some
 {ID := b0.ID, Kind := b0.Kind, Transform := b0.Transform, Velocity := b0.Velocity, AngularVelocity := b0.AngularVelocity, Force := b0.Force, Torque := b0.Torque, LinearDamping := b0.LinearDamping, AngularDamping := b0.AngularDamping, GravityScale := b0.GravityScale, Bullet := b0.Bullet, FixedRotation := b0.FixedRotation, NoSleep := b0.NoSleep, Asleep := b0.Asleep, IdleSteps := b0.IdleSteps, Fixtures := s2382.fst:Body})
 fuel ([], (0:Int))
def caromref16_Clone (m0 : Manifold) : Option Manifold :=
 Chk (m0.Points.length * (48:Nat) ≤ (140737488355328:Nat)) (some m0)
def caromref25_Clone (w0 : World_) : Option World_ :=
 LOOP
 (fun (rec2389 : Int × World_ → Option World_) (s2390 : Int × World_) =>
 Let (↑w0.Bodies.length : Int) fun x2391 =>
 Let (decide (s2390.fst < x2391)) fun x2392 =>
 if x2392 = true then
 Chk ((0:Int) ≤ s2390.fst ∧ s2390.fst < (↑w0.Bodies.length : Int))
 (Let (ix w0.Bodies s2390.fst) fun x2393 =>
 Rx.Bind (caromref23_Clone x2393) fun r2394 =>
 Chk ((s2390.snd.Bodies.length + [r2394].length) * (152:Nat) ≤ (140737488355328:Nat))
 (Let (s2390.snd.Bodies ++ [r2394]) fun x2395 =>
 Let (IntKind.i64.wrap (s2390.fst + (1:Int))) fun x2396 =>
 rec2389
 (x2396,
 {Settings := s2390.snd.Settings, Bodies := x2395, Joints := s2390.snd.Joints, Contacts := s2390.snd.Contacts, Overlaps := s2390.snd.Overlaps, NextID := s2390.snd.NextID, Frame := s2390.snd.Frame:World_})))
 else
 Chk (w0.Joints.length * (192:Nat) ≤ (140737488355328:Nat))
 (LOOP
 (fun (rec2397 : Int × World_ → Option World_) (s2398 : Int × World_) =>
 Let (↑w0.Contacts.length : Int) fun x2399 =>
 Let (decide (s2398.fst < x2399)) fun x2400 =>
 if x2400 = true then
 Chk ((0:Int) ≤ s2398.fst ∧ s2398.fst < (↑w0.Contacts.length : Int))
 (Let (ix w0.Contacts s2398.fst) fun x2401 =>
 Chk ((0:Int) ≤ s2398.fst ∧ s2398.fst < (↑w0.Contacts.length : Int))
 (Let (ix w0.Contacts s2398.fst) fun x2402 =>
 Rx.Bind (caromref16_Clone x2402.Manifold) fun r2403 =>
 Chk
 ((s2398.snd.Contacts.length + [{Key := x2401.Key, Manifold := r2403:Contact}].length) * (72:Nat) ≤
 (140737488355328:Nat))
 (Let (s2398.snd.Contacts ++ [{Key := x2401.Key, Manifold := r2403:Contact}]) fun x2404 =>
 Let (IntKind.i64.wrap (s2398.fst + (1:Int))) fun x2405 =>
 rec2397
 (x2405,
 {Settings := s2398.snd.Settings, Bodies := s2398.snd.Bodies, Joints := s2398.snd.Joints, Contacts := x2404, Overlaps := s2398.snd.Overlaps, NextID := s2398.snd.NextID, Frame := s2398.snd.Frame:World_}))))
 else
 Chk (w0.Overlaps.length * (32:Nat) ≤ (140737488355328:Nat))
 (some
 {Settings := s2398.snd.Settings, Bodies := s2398.snd.Bodies, Joints := s2398.snd.Joints, Contacts := s2398.snd.Contacts, Overlaps := w0.Overlaps, NextID := s2398.snd.NextID, Frame := s2398.snd.Frame:World_}))
 fuel
 ((0:Int),
 {Settings := s2390.snd.Settings, Bodies := s2390.snd.Bodies, Joints := w0.Joints, Contacts := s2390.snd.Contacts, Overlaps := s2390.snd.Overlaps, NextID := s2390.snd.NextID, Frame := s2390.snd.Frame:World_})))
 fuel
 ((0:Int),
 {Settings := w0.Settings, Bodies:=[], Joints := w0.Joints, Contacts:=[], Overlaps := w0.Overlaps, NextID := w0.NextID, Frame := w0.Frame:World_})
def caromref25_AddBody (w0 : World_) (b1 : Body) : Option (World_ × Int × Int) :=
 Let (↑w0.Bodies.length : Int) fun x2406 =>
 Let (decide (x2406 ≥ (32:Int))) fun x2407 =>
 Let (decide (w0.NextID ≥ (1099511627776:Int))) fun x2408 =>
 Let (bif x2407 then true else x2408) fun x2409 =>
 if x2409 = true then
 some
 (zW_,
 (0:Int), (9:Int))
 else
 Rx.Bind
 (caromref23_Validate
 {ID := w0.NextID, Kind := b1.Kind, Transform := b1.Transform, Velocity := b1.Velocity, AngularVelocity := b1.AngularVelocity, Force := b1.Force, Torque := b1.Torque, LinearDamping := b1.LinearDamping, AngularDamping := b1.AngularDamping, GravityScale := b1.GravityScale, Bullet := b1.Bullet, FixedRotation := b1.FixedRotation, NoSleep := b1.NoSleep, Asleep := b1.Asleep, IdleSteps := b1.IdleSteps, Fixtures := b1.Fixtures:Body})
 fun r2410 =>
 Let (r2410 != (0:Int)) fun x2411 =>
 if x2411 = true then
 some
 (zW_,
 (0:Int), (14:Int))
 else
 Rx.Bind (caromref25_Clone w0) fun r2412 =>
 Rx.Bind
 (caromref23_Clone
 {ID := w0.NextID, Kind := b1.Kind, Transform := b1.Transform, Velocity := b1.Velocity, AngularVelocity := b1.AngularVelocity, Force := b1.Force, Torque := b1.Torque, LinearDamping := b1.LinearDamping, AngularDamping := b1.AngularDamping, GravityScale := b1.GravityScale, Bullet := b1.Bullet, FixedRotation := b1.FixedRotation, NoSleep := b1.NoSleep, Asleep := b1.Asleep, IdleSteps := b1.IdleSteps, Fixtures := b1.Fixtures:Body})
 fun r2413 =>
 Chk ((r2412.Bodies.length + [r2413].length) * (152:Nat) ≤ (140737488355328:Nat))
 (Let (r2412.Bodies ++ [r2413]) fun x2414 =>
 Let (IntKind.i64.wrap (w0.NextID + (1:Int))) fun x2415 =>
 some
 ({Settings := r2412.Settings, Bodies := x2414, Joints := r2412.Joints, Contacts := r2412.Contacts, Overlaps := r2412.Overlaps, NextID := x2415, Frame := r2412.Frame:World_},
 w0.NextID, (0:Int)))
def caromref25_WakeBody (w0 : World_) (id1 : Int) : Option World_ :=
 Rx.Bind (caromref25_Clone w0) fun r2416 =>
 Rx.Bind (caromref25_FindBody w0 id1) fun r2417 =>
 Join
 (fun (v2418 : List Body) =>
 some
 {Settings := r2416.Settings, Bodies := v2418, Joints := r2416.Joints, Contacts := r2416.Contacts, Overlaps := r2416.Overlaps, NextID := r2416.NextID, Frame := r2416.Frame:World_})
 fun (j2419 : List Body → Option World_) =>
 Let (decide (r2417 ≥ (0:Int))) fun x2420 =>
 Chk ((x2420 == true) = true → (0:Int) ≤ r2417 ∧ r2417 < (↑w0.Bodies.length : Int))
 (Let (ix w0.Bodies r2417) fun x2421 =>
 Let (x2421.Kind == (3:Int)) fun x2422 =>
 Let (bif x2420 then x2422 else false) fun x2423 =>
 if x2423 = true then
 Chk ((0:Int) ≤ r2417 ∧ r2417 < (↑r2416.Bodies.length : Int))
 (Chk ((0:Int) ≤ r2417 ∧ r2417 < (↑r2416.Bodies.length : Int))
 (Let
 (r2416.Bodies.set r2417.toNat
 {ID := (ix r2416.Bodies r2417).ID, Kind := (ix r2416.Bodies r2417).Kind, Transform := (ix r2416.Bodies r2417).Transform, Velocity := (ix r2416.Bodies r2417).Velocity, AngularVelocity := (ix r2416.Bodies r2417).AngularVelocity, Force := (ix r2416.Bodies r2417).Force, Torque := (ix r2416.Bodies r2417).Torque, LinearDamping := (ix r2416.Bodies r2417).LinearDamping, AngularDamping := (ix r2416.Bodies r2417).AngularDamping, GravityScale := (ix r2416.Bodies r2417).GravityScale, Bullet := (ix r2416.Bodies r2417).Bullet, FixedRotation := (ix r2416.Bodies r2417).FixedRotation, NoSleep := (ix r2416.Bodies r2417).NoSleep, Asleep:=false, IdleSteps := (ix r2416.Bodies r2417).IdleSteps, Fixtures := (ix r2416.Bodies r2417).Fixtures:Body})
 fun x2424 =>
 Chk ((0:Int) ≤ r2417 ∧ r2417 < (↑x2424.length : Int))
 (Chk ((0:Int) ≤ r2417 ∧ r2417 < (↑x2424.length : Int))
 (Let
 (x2424.set r2417.toNat
 {ID := (ix x2424 r2417).ID, Kind := (ix x2424 r2417).Kind, Transform := (ix x2424 r2417).Transform, Velocity := (ix x2424 r2417).Velocity, AngularVelocity := (ix x2424 r2417).AngularVelocity, Force := (ix x2424 r2417).Force, Torque := (ix x2424 r2417).Torque, LinearDamping := (ix x2424 r2417).LinearDamping, AngularDamping := (ix x2424 r2417).AngularDamping, GravityScale := (ix x2424 r2417).GravityScale, Bullet := (ix x2424 r2417).Bullet, FixedRotation := (ix x2424 r2417).FixedRotation, NoSleep := (ix x2424 r2417).NoSleep, Asleep := (ix x2424 r2417).Asleep, IdleSteps:=(0:Int), Fixtures := (ix x2424 r2417).Fixtures:Body})
 fun x2425 => j2419 x2425))))
 else j2419 r2416.Bodies)
def caromref25_AddJoint (w0 : World_) (j1 : Joint) : Option (World_ × Int × Int) :=
 Let (↑w0.Joints.length : Int) fun x2426 =>
 Let (decide (x2426 ≥ (32:Int))) fun x2427 =>
 Let (decide (w0.NextID ≥ (1099511627776:Int))) fun x2428 =>
 Let (bif x2427 then true else x2428) fun x2429 =>
 if x2429 = true then
 some
 (zW_,
 (0:Int), (9:Int))
 else
 Rx.Bind
 (caromref24_Validate
 {ID := w0.NextID, Kind := j1.Kind, BodyA := j1.BodyA, BodyB := j1.BodyB, AnchorA := j1.AnchorA, AnchorB := j1.AnchorB, Axis := j1.Axis, ReferenceAngle := j1.ReferenceAngle, EnableLimit := j1.EnableLimit, Lower := j1.Lower, Upper := j1.Upper, EnableMotor := j1.EnableMotor, MotorSpeed := j1.MotorSpeed, MaxForce := j1.MaxForce, Softness := j1.Softness, BreakForce := j1.BreakForce, CollideConnected := j1.CollideConnected, Impulses := ((0:Int), (0:Int), (0:Int), (0:Int)):Joint})
 fun r2430 =>
 Let (r2430 != (0:Int)) fun x2431 =>
 Rx.Bind
 (if (x2431 == false) = true then
 caromref25_connected w0
 {ID := w0.NextID, Kind := j1.Kind, BodyA := j1.BodyA, BodyB := j1.BodyB, AnchorA := j1.AnchorA, AnchorB := j1.AnchorB, Axis := j1.Axis, ReferenceAngle := j1.ReferenceAngle, EnableLimit := j1.EnableLimit, Lower := j1.Lower, Upper := j1.Upper, EnableMotor := j1.EnableMotor, MotorSpeed := j1.MotorSpeed, MaxForce := j1.MaxForce, Softness := j1.Softness, BreakForce := j1.BreakForce, CollideConnected := j1.CollideConnected, Impulses := ((0:Int), (0:Int), (0:Int), (0:Int)):Joint}
 else some default)
 fun r2432 =>
 Let (!r2432) fun x2433 =>
 Let (bif x2431 then true else x2433) fun x2434 =>
 if x2434 = true then
 some
 (zW_,
 (0:Int), (15:Int))
 else
 Rx.Bind (caromref25_Clone w0) fun r2435 =>
 Chk
 ((r2435.Joints.length +
 [{ID := w0.NextID, Kind := j1.Kind, BodyA := j1.BodyA, BodyB := j1.BodyB, AnchorA := j1.AnchorA, AnchorB := j1.AnchorB, Axis := j1.Axis, ReferenceAngle := j1.ReferenceAngle, EnableLimit := j1.EnableLimit, Lower := j1.Lower, Upper := j1.Upper, EnableMotor := j1.EnableMotor, MotorSpeed := j1.MotorSpeed, MaxForce := j1.MaxForce, Softness := j1.Softness, BreakForce := j1.BreakForce, CollideConnected := j1.CollideConnected, Impulses := ((0:Int), (0:Int), (0:Int), (0:Int)):Joint}].length) *
 (192:Nat) ≤
 (140737488355328:Nat))
 (Let
 (r2435.Joints ++
 [{ID := w0.NextID, Kind := j1.Kind, BodyA := j1.BodyA, BodyB := j1.BodyB, AnchorA := j1.AnchorA, AnchorB := j1.AnchorB, Axis := j1.Axis, ReferenceAngle := j1.ReferenceAngle, EnableLimit := j1.EnableLimit, Lower := j1.Lower, Upper := j1.Upper, EnableMotor := j1.EnableMotor, MotorSpeed := j1.MotorSpeed, MaxForce := j1.MaxForce, Softness := j1.Softness, BreakForce := j1.BreakForce, CollideConnected := j1.CollideConnected, Impulses := ((0:Int), (0:Int), (0:Int), (0:Int)):Joint}])
 fun x2436 =>
 Let (IntKind.i64.wrap (w0.NextID + (1:Int))) fun x2437 =>
 Rx.Bind
 (caromref25_WakeBody
 {Settings := r2435.Settings, Bodies := r2435.Bodies, Joints := x2436, Contacts := r2435.Contacts, Overlaps := r2435.Overlaps, NextID := x2437, Frame := r2435.Frame:World_}
 j1.BodyA)
 fun r2438 =>
 Rx.Bind (caromref25_WakeBody r2438 j1.BodyB) fun r2439 => some (r2439, w0.NextID, (0:Int)))
def caromref24_Attached (j0 : Joint) (id1 : Int) : Option Bool :=
 Let (id1 != (0:Int)) fun x2440 =>
 Let (j0.BodyA == id1) fun x2441 =>
 Let (j0.BodyB == id1) fun x2442 =>
 Let (bif x2441 then true else x2442) fun x2443 =>
 Let (bif x2440 then x2443 else false) fun x2444 => some x2444
def caromref25_other (k0 : PairKey) (id1 : Int) : Option (Int × Bool) :=
 Let (k0.BodyA == id1) fun x2445 =>
 if x2445 = true then some (k0.BodyB, true) else Let (k0.BodyB == id1) fun x2446 => some (k0.BodyA, x2446)
def caromref25_RemoveBody (w0 : World_) (id1 : Int) : Option (World_ × Int) :=
 Rx.Bind (caromref25_FindBody w0 id1) fun r2447 =>
 Let (decide (r2447 < (0:Int))) fun x2448 =>
 if x2448 = true then
 some
 (zW_,
 (8:Int))
 else
 Rx.Bind (caromref25_Clone w0) fun r2449 =>
 Chk
 ((0:Int) ≤ none.getD (0:Int) ∧
 (0:Int) ≤ (some r2447).getD (0:Int) ∧ (0:Nat) ≤ r2447.toNat ∧ r2447.toNat ≤ r2449.Bodies.length)
 (Let (IntKind.i64.wrap (r2447 + (1:Int))) fun x2450 =>
 Chk
 ((0:Int) ≤ (some x2450).getD (0:Int) ∧
 (0:Int) ≤ none.getD (0:Int) ∧ x2450.toNat ≤ r2449.Bodies.length ∧ r2449.Bodies.length ≤ r2449.Bodies.length)
 (Chk (x2450.toNat + (r2449.Bodies.length - x2450.toNat) ≤ r2449.Bodies.length)
 (Let (List.take (r2449.Bodies.length - x2450.toNat) (List.drop x2450.toNat r2449.Bodies)) fun x2451 =>
 Chk
 ((0:Nat) + (r2447.toNat - (0:Nat) + x2451.length) ≤ r2449.Bodies.length ∧
 r2447.toNat - (0:Nat) + x2451.length ≤ r2449.Bodies.length - (0:Nat) ∧ (0:Nat) < r2449.Bodies.length - (0:Nat))
 (Let
 (List.take ((0:Nat) + (r2447.toNat - (0:Nat))) r2449.Bodies ++ x2451 ++
 List.drop ((0:Nat) + (r2447.toNat - (0:Nat)) + x2451.length) r2449.Bodies)
 fun x2452 =>
 Chk (r2447.toNat - (0:Nat) + x2451.length ≤ x2452.length)
 (Let (List.take (r2447.toNat - (0:Nat) + x2451.length) x2452) fun x2453 =>
 LOOP
 (fun (rec2454 : List Int × Int × World_ → Option (World_ × Int)) (s2455 : List Int × Int × World_) =>
 Let (↑w0.Joints.length : Int) fun x2456 =>
 Let (decide (s2455.snd.fst < x2456)) fun x2457 =>
 if x2457 = true then
 Join
 (fun (v2458 : List Int × World_) =>
 Let (IntKind.i64.wrap (s2455.snd.fst + (1:Int))) fun x2459 => rec2454 (v2458.fst, x2459, v2458.snd))
 fun (j2460 : List Int × World_ → Option (World_ × Int)) =>
 Chk ((0:Int) ≤ s2455.snd.fst ∧ s2455.snd.fst < (↑w0.Joints.length : Int))
 (Let (ix w0.Joints s2455.snd.fst) fun x2461 =>
 Rx.Bind (caromref24_Attached x2461 id1) fun r2462 =>
 if r2462 = true then
 Chk ((List.length s2455.fst + [x2461.BodyA, x2461.BodyB].length) * (8:Nat) ≤ (140737488355328:Nat))
 (Let (s2455.fst ++ [x2461.BodyA, x2461.BodyB]) fun x2463 => j2460 (x2463, s2455.snd.snd))
 else
 Chk ((s2455.snd.snd.Joints.length + [x2461].length) * (192:Nat) ≤ (140737488355328:Nat))
 (Let (s2455.snd.snd.Joints ++ [x2461]) fun x2464 =>
 j2460
 (s2455.fst,
 {Settings := s2455.snd.snd.Settings, Bodies := s2455.snd.snd.Bodies, Joints := x2464, Contacts := s2455.snd.snd.Contacts, Overlaps := s2455.snd.snd.Overlaps, NextID := s2455.snd.snd.NextID, Frame := s2455.snd.snd.Frame:World_})))
 else
 LOOP
 (fun (rec2465 : List Int × Int × World_ → Option (World_ × Int)) (s2466 : List Int × Int × World_) =>
 Let (↑w0.Contacts.length : Int) fun x2467 =>
 Let (decide (s2466.snd.fst < x2467)) fun x2468 =>
 if x2468 = true then
 Join
 (fun (v2469 : List Int × World_) =>
 Let (IntKind.i64.wrap (s2466.snd.fst + (1:Int))) fun x2470 => rec2465 (v2469.fst, x2470, v2469.snd))
 fun (j2471 : List Int × World_ → Option (World_ × Int)) =>
 Chk ((0:Int) ≤ s2466.snd.fst ∧ s2466.snd.fst < (↑w0.Contacts.length : Int))
 (Let (ix w0.Contacts s2466.snd.fst) fun x2472 =>
 Rx.Bind (caromref25_other x2472.Key id1) fun r2473 =>
 if r2473.snd = true then
 Chk ((List.length s2466.fst + [r2473.fst].length) * (8:Nat) ≤ (140737488355328:Nat))
 (Let (s2466.fst ++ [r2473.fst]) fun x2474 => j2471 (x2474, s2466.snd.snd))
 else
 Chk ((0:Int) ≤ s2466.snd.fst ∧ s2466.snd.fst < (↑w0.Contacts.length : Int))
 (Let (ix w0.Contacts s2466.snd.fst) fun x2475 =>
 Chk ((0:Int) ≤ s2466.snd.fst ∧ s2466.snd.fst < (↑w0.Contacts.length : Int))
 (Let (ix w0.Contacts s2466.snd.fst) fun x2476 =>
 Rx.Bind (caromref16_Clone x2476.Manifold) fun r2477 =>
 Chk
 ((s2466.snd.snd.Contacts.length + [{Key := x2475.Key, Manifold := r2477:Contact}].length) * (72:Nat) ≤
 (140737488355328:Nat))
 (Let (s2466.snd.snd.Contacts ++ [{Key := x2475.Key, Manifold := r2477:Contact}]) fun x2478 =>
 j2471
 (s2466.fst,
 {Settings := s2466.snd.snd.Settings, Bodies := s2466.snd.snd.Bodies, Joints := s2466.snd.snd.Joints, Contacts := x2478, Overlaps := s2466.snd.snd.Overlaps, NextID := s2466.snd.snd.NextID, Frame := s2466.snd.snd.Frame:World_})))))
 else
 LOOP
 (fun (rec2479 : Int × World_ → Option (World_ × Int)) (s2480 : Int × World_) =>
 Let (↑w0.Overlaps.length : Int) fun x2481 =>
 Let (decide (s2480.fst < x2481)) fun x2482 =>
 if x2482 = true then
 Join
 (fun (v2483 : World_) => Let (IntKind.i64.wrap (s2480.fst + (1:Int))) fun x2484 => rec2479 (x2484, v2483))
 fun (j2485 : World_ → Option (World_ × Int)) =>
 Chk ((0:Int) ≤ s2480.fst ∧ s2480.fst < (↑w0.Overlaps.length : Int))
 (Let (ix w0.Overlaps s2480.fst) fun x2486 =>
 Rx.Bind (caromref25_other x2486 id1) fun r2487 =>
 Let (!r2487.snd) fun x2488 =>
 if x2488 = true then
 Chk ((0:Int) ≤ s2480.fst ∧ s2480.fst < (↑w0.Overlaps.length : Int))
 (Let (ix w0.Overlaps s2480.fst) fun x2489 =>
 Chk ((s2480.snd.Overlaps.length + [x2489].length) * (32:Nat) ≤ (140737488355328:Nat))
 (Let (s2480.snd.Overlaps ++ [x2489]) fun x2490 =>
 j2485
 {Settings := s2480.snd.Settings, Bodies := s2480.snd.Bodies, Joints := s2480.snd.Joints, Contacts := s2480.snd.Contacts, Overlaps := x2490, NextID := s2480.snd.NextID, Frame := s2480.snd.Frame:World_}))
 else j2485 s2480.snd)
 else
 LOOP
 (fun (rec2491 : Int × World_ → Option (World_ × Int)) (s2492 : Int × World_) =>
 Let (↑(List.length s2466.fst) : Int) fun x2493 =>
 Let (decide (s2492.fst < x2493)) fun x2494 =>
 if x2494 = true then
 Join
 (fun (v2495 : World_) => Let (IntKind.i64.wrap (s2492.fst + (1:Int))) fun x2496 => rec2491 (x2496, v2495))
 fun (j2497 : World_ → Option (World_ × Int)) =>
 Chk ((0:Int) ≤ s2492.fst ∧ s2492.fst < (↑(List.length s2466.fst) : Int))
 (Chk ((0:Int) ≤ s2492.fst ∧ s2492.fst < (↑(List.length s2466.fst) : Int))
 (Let (ix s2466.fst s2492.fst) fun x2498 =>
 Let (x2498 != id1) fun x2499 =>
 if x2499 = true then
 Chk ((0:Int) ≤ s2492.fst ∧ s2492.fst < (↑(List.length s2466.fst) : Int))
 (Chk ((0:Int) ≤ s2492.fst ∧ s2492.fst < (↑(List.length s2466.fst) : Int))
 (Let (ix s2466.fst s2492.fst) fun x2500 =>
 Rx.Bind (caromref25_WakeBody s2492.snd x2500) fun r2501 => j2497 r2501))
 else j2497 s2492.snd))
 else some (s2492.snd, (0:Int)))
 fuel ((0:Int), s2480.snd))
 fuel ((0:Int), s2466.snd.snd))
 fuel (s2455.fst, (0:Int), s2455.snd.snd))
 fuel
 ([], (0:Int),
 {Settings := r2449.Settings, Bodies := x2453, Joints:=[], Contacts:=[], Overlaps:=[], NextID := r2449.NextID, Frame := r2449.Frame:World_}))))))
def caromref25_FindJoint (w0 : World_) (id1 : Int) : Option Int :=
 LOOP
 (fun (rec2502 : Int → Option Int) (s2503 : Int) =>
 Let (↑w0.Joints.length : Int) fun x2504 =>
 Let (decide (s2503 < x2504)) fun x2505 =>
 if x2505 = true then
 Chk ((0:Int) ≤ s2503 ∧ s2503 < (↑w0.Joints.length : Int))
 (Let (ix w0.Joints s2503) fun x2506 =>
 Let (x2506.ID == id1) fun x2507 =>
 if x2507 = true then some s2503 else Let (IntKind.i64.wrap (s2503 + (1:Int))) fun x2508 => rec2502 x2508)
 else some (-1:Int))
 fuel (0:Int)
def caromref25_RemoveJoint (w0 : World_) (id1 : Int) : Option (World_ × Int) :=
 Rx.Bind (caromref25_FindJoint w0 id1) fun r2509 =>
 Let (decide (r2509 < (0:Int))) fun x2510 =>
 if x2510 = true then
 some
 (zW_,
 (8:Int))
 else
 Rx.Bind (caromref25_Clone w0) fun r2511 =>
 Chk
 ((0:Int) ≤ none.getD (0:Int) ∧
 (0:Int) ≤ (some r2509).getD (0:Int) ∧ (0:Nat) ≤ r2509.toNat ∧ r2509.toNat ≤ r2511.Joints.length)
 (Let (IntKind.i64.wrap (r2509 + (1:Int))) fun x2512 =>
 Chk
 ((0:Int) ≤ (some x2512).getD (0:Int) ∧
 (0:Int) ≤ none.getD (0:Int) ∧ x2512.toNat ≤ r2511.Joints.length ∧ r2511.Joints.length ≤ r2511.Joints.length)
 (Chk (x2512.toNat + (r2511.Joints.length - x2512.toNat) ≤ r2511.Joints.length)
 (Let (List.take (r2511.Joints.length - x2512.toNat) (List.drop x2512.toNat r2511.Joints)) fun x2513 =>
 Chk
 ((0:Nat) + (r2509.toNat - (0:Nat) + x2513.length) ≤ r2511.Joints.length ∧
 r2509.toNat - (0:Nat) + x2513.length ≤ r2511.Joints.length - (0:Nat) ∧ (0:Nat) < r2511.Joints.length - (0:Nat))
 (Let
 (List.take ((0:Nat) + (r2509.toNat - (0:Nat))) r2511.Joints ++ x2513 ++
 List.drop ((0:Nat) + (r2509.toNat - (0:Nat)) + x2513.length) r2511.Joints)
 fun x2514 =>
 Chk (r2509.toNat - (0:Nat) + x2513.length ≤ x2514.length)
 (Let (List.take (r2509.toNat - (0:Nat) + x2513.length) x2514) fun x2515 =>
 Chk ((0:Int) ≤ r2509 ∧ r2509 < (↑w0.Joints.length : Int))
 (Let (ix w0.Joints r2509) fun x2516 =>
 Rx.Bind
 (caromref25_WakeBody
 {Settings := r2511.Settings, Bodies := r2511.Bodies, Joints := x2515, Contacts := r2511.Contacts, Overlaps := r2511.Overlaps, NextID := r2511.NextID, Frame := r2511.Frame:World_}
 x2516.BodyA)
 fun r2517 =>
 Chk ((0:Int) ≤ r2509 ∧ r2509 < (↑w0.Joints.length : Int))
 (Let (ix w0.Joints r2509) fun x2518 =>
 Rx.Bind (caromref25_WakeBody r2517 x2518.BodyB) fun r2519 => some (r2519, (0:Int)))))))))
def caromref43_joint (w0 : World_) (x1 : Input) : Option (World_ × Int) :=
 Rx.Bind (caromref25_FindJoint w0 x1.ID) fun r2520 =>
 Let (decide (r2520 < (0:Int))) fun x2521 =>
 if x2521 = true then
 some
 (zW_,
 (8:Int))
 else
 Chk ((0:Int) ≤ r2520 ∧ r2520 < (↑w0.Joints.length : Int))
 (Let (ix w0.Joints r2520) fun x2522 =>
 Let (x1.Kind == (7:Int)) fun x2523 =>
 Let (x2522.Kind != (5:Int)) fun x2524 =>
 Let (bif x2523 then x2524 else false) fun x2525 =>
 Let (x1.Kind == (8:Int)) fun x2526 =>
 Let (!x2522.EnableMotor) fun x2527 =>
 Let (bif x2526 then x2527 else false) fun x2528 =>
 Let (bif x2525 then true else x2528) fun x2529 =>
 if x2529 = true then
 some
 (zW_,
 (10:Int))
 else
 Join
 (fun (v2530 : Joint) =>
 Rx.Bind (caromref24_Validate v2530) fun r2531 =>
 Let (r2531 != (0:Int)) fun x2532 =>
 if x2532 = true then
 some
 (zW_,
 (6:Int))
 else
 Rx.Bind (caromref25_Clone w0) fun r2533 =>
 Chk ((0:Int) ≤ r2520 ∧ r2520 < (↑r2533.Joints.length : Int))
 (Chk ((0:Int) ≤ r2520 ∧ r2520 < (↑r2533.Joints.length : Int))
 (Let (r2533.Joints.set r2520.toNat v2530) fun x2534 =>
 Rx.Bind
 (caromref25_WakeBody
 {Settings := r2533.Settings, Bodies := r2533.Bodies, Joints := x2534, Contacts := r2533.Contacts, Overlaps := r2533.Overlaps, NextID := r2533.NextID, Frame := r2533.Frame:World_}
 v2530.BodyA)
 fun r2535 =>
 Rx.Bind (caromref25_WakeBody r2535 v2530.BodyB) fun r2536 => some (r2536, (0:Int)))))
 fun (j2537 : Joint → Option (World_ × Int)) =>
 Let (x1.Kind == (7:Int)) fun x2538 =>
 if x2538 = true then
 j2537
 {ID := x2522.ID, Kind := x2522.Kind, BodyA := x2522.BodyA, BodyB := x2522.BodyB, AnchorA := x1.Vec, AnchorB := x2522.AnchorB, Axis := x2522.Axis, ReferenceAngle := x2522.ReferenceAngle, EnableLimit := x2522.EnableLimit, Lower := x2522.Lower, Upper := x2522.Upper, EnableMotor := x2522.EnableMotor, MotorSpeed := x2522.MotorSpeed, MaxForce := x2522.MaxForce, Softness := x2522.Softness, BreakForce := x2522.BreakForce, CollideConnected := x2522.CollideConnected, Impulses := x2522.Impulses:Joint}
 else
 j2537
 {ID := x2522.ID, Kind := x2522.Kind, BodyA := x2522.BodyA, BodyB := x2522.BodyB, AnchorA := x2522.AnchorA, AnchorB := x2522.AnchorB, Axis := x2522.Axis, ReferenceAngle := x2522.ReferenceAngle, EnableLimit := x2522.EnableLimit, Lower := x2522.Lower, Upper := x2522.Upper, EnableMotor := x2522.EnableMotor, MotorSpeed := x1.Value, MaxForce := x2522.MaxForce, Softness := x2522.Softness, BreakForce := x2522.BreakForce, CollideConnected := x2522.CollideConnected, Impulses := x2522.Impulses:Joint})
def caromref01_Mul (a0 : Int) (b1 : Int) : Option Int :=
 Rx.Bind (caromref01_Saturate a0) fun r2539 =>
 Rx.Bind (caromref01_Saturate b1) fun r2540 =>
 Let (IntKind.i64.wrap (r2539 * r2540)) fun x2541 =>
 Rx.Bind (caromref01_RoundDiv x2541 (65536:Int)) fun r2542 =>
 Rx.Bind (caromref01_Saturate r2542) fun r2543 => some r2543
def caromref01_Add (a0 : Int) (b1 : Int) : Option Int :=
 Rx.Bind (caromref01_Saturate a0) fun r2544 =>
 Rx.Bind (caromref01_Saturate b1) fun r2545 =>
 Let (IntKind.i64.wrap (r2544 + r2545)) fun x2546 =>
 Rx.Bind (caromref01_Saturate x2546) fun r2547 => some r2547
def caromref01_Lerp (a0 : Int) (b1 : Int) (t2 : Int) : Option Int :=
 Rx.Bind (caromref01_Sub b1 a0) fun r2548 =>
 Rx.Bind (caromref01_Mul r2548 t2) fun r2549 => Rx.Bind (caromref01_Add a0 r2549) fun r2550 => some r2550
def caromref03_Lerp (a0 : Vec) (b1 : Vec) (t2 : Int) : Option Vec :=
 Rx.Bind (caromref01_Lerp a0.X b1.X t2) fun r2551 =>
 Rx.Bind (caromref01_Lerp a0.Y b1.Y t2) fun r2552 => some {X := r2551, Y := r2552:Vec}
def caromref11_Centroid (vertices0 : (List Vec)) : Option Vec :=
 Rx.Bind (caromref11_IsConvex vertices0) fun r2553 =>
 Let (!r2553) fun x2554 =>
 if x2554 = true then some {X:=(0:Int), Y:=(0:Int):Vec}
 else
 Chk ((0:Int) ≤ (0:Int) ∧ (0:Int) < (↑vertices0.length : Int))
 (Let (ix vertices0 (0:Int)) fun x2555 =>
 LOOP
 (fun (rec2556 : Int × Int × Int × Int → Option Vec) (s2557 : Int × Int × Int × Int) =>
 Let (IntKind.i64.wrap (s2557.snd.snd.snd + (1:Int))) fun x2558 =>
 Let (↑vertices0.length : Int) fun x2559 =>
 Let (decide (x2558 < x2559)) fun x2560 =>
 if x2560 = true then
 Chk ((0:Int) ≤ s2557.snd.snd.snd ∧ s2557.snd.snd.snd < (↑vertices0.length : Int))
 (Let (ix vertices0 s2557.snd.snd.snd) fun x2561 =>
 Let (IntKind.i64.wrap (s2557.snd.snd.snd + (1:Int))) fun x2562 =>
 Chk ((0:Int) ≤ x2562 ∧ x2562 < (↑vertices0.length : Int))
 (Let (ix vertices0 x2562) fun x2563 =>
 Rx.Bind (caromref11_cross vertices0 s2557.snd.snd.snd) fun r2564 =>
 Let (IntKind.i64.wrap (s2557.fst + r2564)) fun x2565 =>
 Let (IntKind.i64.wrap (x2561.X - x2555.X)) fun x2566 =>
 Let (IntKind.i64.wrap (x2566 + x2563.X)) fun x2567 =>
 Let (IntKind.i64.wrap (x2567 - x2555.X)) fun x2568 =>
 Let (IntKind.i64.wrap (x2568 * r2564)) fun x2569 =>
 Let (IntKind.i64.wrap (s2557.snd.fst + x2569)) fun x2570 =>
 Let (IntKind.i64.wrap (x2561.Y - x2555.Y)) fun x2571 =>
 Let (IntKind.i64.wrap (x2571 + x2563.Y)) fun x2572 =>
 Let (IntKind.i64.wrap (x2572 - x2555.Y)) fun x2573 =>
 Let (IntKind.i64.wrap (x2573 * r2564)) fun x2574 =>
 Let (IntKind.i64.wrap (s2557.snd.snd.fst + x2574)) fun x2575 =>
 Let (IntKind.i64.wrap (s2557.snd.snd.snd + (1:Int))) fun x2576 => rec2556 (x2565, x2570, x2575, x2576)))
 else
 Let (s2557.fst == (0:Int)) fun x2577 =>
 if x2577 = true then some x2555
 else
 Let (IntKind.i64.wrap ((3:Int) * s2557.fst)) fun x2578 =>
 Rx.Bind (caromref01_RoundDiv s2557.snd.fst x2578) fun r2579 =>
 Let (IntKind.i64.wrap (x2555.X + r2579)) fun x2580 =>
 Let (IntKind.i64.wrap ((3:Int) * s2557.fst)) fun x2581 =>
 Rx.Bind (caromref01_RoundDiv s2557.snd.snd.fst x2581) fun r2582 =>
 Let (IntKind.i64.wrap (x2555.Y + r2582)) fun x2583 => some {X := x2580, Y := x2583:Vec})
 fuel ((0:Int), (0:Int), (0:Int), (1:Int)))
def caromref03_Cross (a0 : Vec) (b1 : Vec) : Option Int :=
 Rx.Bind (caromref03_Saturated a0) fun r2584 =>
 Rx.Bind (caromref03_Saturated b1) fun r2585 =>
 Let (IntKind.i64.wrap (r2584.X * r2585.Y)) fun x2586 =>
 Let (IntKind.i64.wrap (r2584.Y * r2585.X)) fun x2587 =>
 Let (IntKind.i64.wrap (x2586 - x2587)) fun x2588 =>
 Rx.Bind (caromref01_RoundDiv x2588 (65536:Int)) fun r2589 =>
 Rx.Bind (caromref01_Saturate r2589) fun r2590 => some r2590
def caromref03_Dot (a0 : Vec) (b1 : Vec) : Option Int :=
 Rx.Bind (caromref03_Saturated a0) fun r2591 =>
 Rx.Bind (caromref03_Saturated b1) fun r2592 =>
 Let (IntKind.i64.wrap (r2591.X * r2592.X)) fun x2593 =>
 Let (IntKind.i64.wrap (r2591.Y * r2592.Y)) fun x2594 =>
 Let (IntKind.i64.wrap (x2593 + x2594)) fun x2595 =>
 Rx.Bind (caromref01_RoundDiv x2595 (65536:Int)) fun r2596 =>
 Rx.Bind (caromref01_Saturate r2596) fun r2597 => some r2597
def caromref13_polygonInertia (pts0 : (List Vec)) (c1 : Vec) (m2 : Int) : Option Int :=
 LOOP
 (fun (rec2598 : Int × Int × Int → Option Int) (s2599 : Int × Int × Int) =>
 Let (↑pts0.length : Int) fun x2600 =>
 Let (decide (s2599.snd.snd < x2600)) fun x2601 =>
 if x2601 = true then
 Chk ((0:Int) ≤ s2599.snd.snd ∧ s2599.snd.snd < (↑pts0.length : Int))
 (Let (ix pts0 s2599.snd.snd) fun x2602 =>
 Rx.Bind (caromref03_Sub x2602 c1) fun r2603 =>
 Let (IntKind.i64.wrap (s2599.snd.snd + (1:Int))) fun x2604 =>
 Let (↑pts0.length : Int) fun x2605 =>
 Chk (x2605 ≠ (0:Int))
 (Let (x2604.tmod x2605) fun x2606 =>
 Chk ((0:Int) ≤ x2606 ∧ x2606 < (↑pts0.length : Int))
 (Let (ix pts0 x2606) fun x2607 =>
 Rx.Bind (caromref03_Sub x2607 c1) fun r2608 =>
 Rx.Bind (caromref03_Cross r2603 r2608) fun r2609 =>
 Let (IntKind.i64.wrap (s2599.snd.fst + r2609)) fun x2610 =>
 Rx.Bind (caromref03_Dot r2603 r2603) fun r2611 =>
 Rx.Bind (caromref03_Dot r2603 r2608) fun r2612 =>
 Let (IntKind.i64.wrap (r2611 + r2612)) fun x2613 =>
 Rx.Bind (caromref03_Dot r2608 r2608) fun r2614 =>
 Let (IntKind.i64.wrap (x2613 + r2614)) fun x2615 =>
 Let (IntKind.i64.wrap (r2609 * x2615)) fun x2616 =>
 Let (IntKind.i64.wrap (s2599.fst + x2616)) fun x2617 =>
 Let (IntKind.i64.wrap (s2599.snd.snd + (1:Int))) fun x2618 => rec2598 (x2617, x2610, x2618))))
 else
 Let (decide (s2599.snd.fst < (1:Int))) fun x2619 =>
 if x2619 = true then some (0:Int)
 else
 Rx.Bind (caromref01_RoundDiv s2599.fst s2599.snd.fst) fun r2620 =>
 Rx.Bind (caromref01_RoundDiv r2620 (6:Int)) fun r2621 =>
 Rx.Bind (caromref01_Mul m2 r2621) fun r2622 => some r2622)
 fuel ((0:Int), (0:Int), (0:Int))
def caromref13_OfShape (s0 : Shape) (density1 : Int) : Option MassData :=
 Rx.Bind (caromref12_Validate s0) fun r2623 =>
 Let (r2623 != (0:Int)) fun x2624 =>
 Let (decide (density1 < (0:Int))) fun x2625 =>
 Let (bif x2624 then true else x2625) fun x2626 =>
 Let (decide (density1 > (262144:Int))) fun x2627 =>
 Let (bif x2626 then true else x2627) fun x2628 =>
 if x2628 = true then
 some {Mass:=(0:Int), Center := {X:=(0:Int), Y:=(0:Int):Vec}, Inertia:=(0:Int) : MassData }
 else
 Rx.Bind (caromref01_Mul s0.Radius s0.Radius) fun r2629 =>
 Rx.Bind (caromref01_Mul (205888:Int) r2629) fun r2630 =>
 Let (s0.Kind == (1:Int)) fun x2631 =>
 if x2631 = true then
 Rx.Bind (caromref01_Mul r2630 density1) fun r2632 =>
 Chk ((0:Int) ≤ (0:Int) ∧ (0:Int) < (↑s0.Vertices.length : Int))
 (Let (ix s0.Vertices (0:Int)) fun x2633 =>
 Rx.Bind (caromref01_RoundDiv r2629 (2:Int)) fun r2634 =>
 Rx.Bind (caromref01_Mul r2632 r2634) fun r2635 =>
 some {Mass := r2632, Center := x2633, Inertia := r2635 : MassData })
 else
 Let (s0.Kind == (2:Int)) fun x2636 =>
 if x2636 = true then
 Chk ((0:Int) ≤ (1:Int) ∧ (1:Int) < (↑s0.Vertices.length : Int))
 (Let (ix s0.Vertices (1:Int)) fun x2637 =>
 Chk ((0:Int) ≤ (0:Int) ∧ (0:Int) < (↑s0.Vertices.length : Int))
 (Let (ix s0.Vertices (0:Int)) fun x2638 =>
 Rx.Bind (caromref03_Sub x2637 x2638) fun r2639 =>
 Rx.Bind (caromref03_Length r2639) fun r2640 =>
 Rx.Bind (caromref01_Add s0.Radius s0.Radius) fun r2641 =>
 Rx.Bind (caromref01_Mul r2641 r2640) fun r2642 =>
 Rx.Bind (caromref01_Add r2630 r2642) fun r2643 =>
 Rx.Bind (caromref01_Mul r2643 density1) fun r2644 =>
 Chk ((0:Int) ≤ (0:Int) ∧ (0:Int) < (↑s0.Vertices.length : Int))
 (Let (ix s0.Vertices (0:Int)) fun x2645 =>
 Chk ((0:Int) ≤ (1:Int) ∧ (1:Int) < (↑s0.Vertices.length : Int))
 (Let (ix s0.Vertices (1:Int)) fun x2646 =>
 Rx.Bind (caromref03_Lerp x2645 x2646 (32768:Int)) fun r2647 =>
 Rx.Bind (caromref01_RoundDiv r2629 (2:Int)) fun r2648 =>
 Rx.Bind (caromref01_Mul r2640 r2640) fun r2649 =>
 Rx.Bind (caromref01_RoundDiv r2649 (12:Int)) fun r2650 =>
 Rx.Bind (caromref01_Add r2648 r2650) fun r2651 =>
 Rx.Bind (caromref01_Mul r2644 r2651) fun r2652 =>
 some {Mass := r2644, Center := r2647, Inertia := r2652 : MassData }))))
 else
 Rx.Bind (caromref11_Area s0.Vertices) fun r2653 =>
 Rx.Bind (caromref01_Mul r2653 density1) fun r2654 =>
 Rx.Bind (caromref11_Centroid s0.Vertices) fun r2655 =>
 Rx.Bind (caromref13_polygonInertia s0.Vertices r2655 r2654) fun r2656 =>
 some {Mass := r2654, Center := r2655, Inertia := r2656 : MassData }
def caromref13_Combine (l0 : (List MassData)) : Option MassData :=
 Let (↑l0.length : Int) fun x2657 =>
 Let (decide (x2657 > (8:Int))) fun x2658 =>
 if x2658 = true then
 some {Mass:=(0:Int), Center := {X:=(0:Int), Y:=(0:Int):Vec}, Inertia:=(0:Int) : MassData }
 else
 LOOP
 (fun (rec2659 : Int × Int × Int × Int × MassData × MassData → Option MassData)
 (s2660 : Int × Int × Int × Int × MassData × MassData) =>
 Let (↑l0.length : Int) fun x2661 =>
 Let (decide (s2660.snd.snd.snd.fst < x2661)) fun x2662 =>
 if x2662 = true then
 Chk ((0:Int) ≤ s2660.snd.snd.snd.fst ∧ s2660.snd.snd.snd.fst < (↑l0.length : Int))
 (Let (ix l0 s2660.snd.snd.snd.fst) fun x2663 =>
 Let (decide (x2663.Mass < (0:Int))) fun x2664 =>
 if x2664 = true then
 some {Mass:=(0:Int), Center := {X:=(0:Int), Y:=(0:Int):Vec}, Inertia:=(0:Int) : MassData }
 else
 Chk ((0:Int) ≤ s2660.snd.snd.snd.fst ∧ s2660.snd.snd.snd.fst < (↑l0.length : Int))
 (Let (ix l0 s2660.snd.snd.snd.fst) fun x2665 =>
 Rx.Bind (caromref01_Saturate x2665.Mass) fun r2666 =>
 Rx.Bind (caromref01_Add s2660.snd.snd.snd.snd.snd.Mass r2666) fun r2667 =>
 Let (IntKind.i64.wrap (s2660.fst + r2666)) fun x2668 =>
 Chk ((0:Int) ≤ s2660.snd.snd.snd.fst ∧ s2660.snd.snd.snd.fst < (↑l0.length : Int))
 (Let (ix l0 s2660.snd.snd.snd.fst) fun x2669 =>
 Rx.Bind (caromref01_Saturate x2669.Center.X) fun r2670 =>
 Let (IntKind.i64.wrap (r2666 * r2670)) fun x2671 =>
 Let (IntKind.i64.wrap (s2660.snd.fst + x2671)) fun x2672 =>
 Chk ((0:Int) ≤ s2660.snd.snd.snd.fst ∧ s2660.snd.snd.snd.fst < (↑l0.length : Int))
 (Let (ix l0 s2660.snd.snd.snd.fst) fun x2673 =>
 Rx.Bind (caromref01_Saturate x2673.Center.Y) fun r2674 =>
 Let (IntKind.i64.wrap (r2666 * r2674)) fun x2675 =>
 Let (IntKind.i64.wrap (s2660.snd.snd.fst + x2675)) fun x2676 =>
 Let (IntKind.i64.wrap (s2660.snd.snd.snd.fst + (1:Int))) fun x2677 =>
 rec2659
 (x2668, x2672, x2676, x2677, s2660.snd.snd.snd.snd.fst,
 {Mass := r2667, Center := s2660.snd.snd.snd.snd.snd.Center, Inertia := s2660.snd.snd.snd.snd.snd.Inertia : MassData })))))
 else
 Join
 (fun (v2678 : MassData) =>
 LOOP
 (fun (rec2679 : Int × MassData → Option MassData) (s2680 : Int × MassData) =>
 Let (↑l0.length : Int) fun x2681 =>
 Let (decide (s2680.fst < x2681)) fun x2682 =>
 if x2682 = true then
 Chk ((0:Int) ≤ s2680.fst ∧ s2680.fst < (↑l0.length : Int))
 (Let (ix l0 s2680.fst) fun x2683 =>
 Rx.Bind (caromref03_Sub x2683.Center s2680.snd.Center) fun r2684 =>
 Chk ((0:Int) ≤ s2680.fst ∧ s2680.fst < (↑l0.length : Int))
 (Let (ix l0 s2680.fst) fun x2685 =>
 Rx.Bind (caromref01_Add s2680.snd.Inertia x2685.Inertia) fun r2686 =>
 Chk ((0:Int) ≤ s2680.fst ∧ s2680.fst < (↑l0.length : Int))
 (Let (ix l0 s2680.fst) fun x2687 =>
 Rx.Bind (caromref03_Dot r2684 r2684) fun r2688 =>
 Rx.Bind (caromref01_Mul x2687.Mass r2688) fun r2689 =>
 Rx.Bind (caromref01_Add r2686 r2689) fun r2690 =>
 Let (IntKind.i64.wrap (s2680.fst + (1:Int))) fun x2691 =>
 rec2679 (x2691, {Mass := s2680.snd.Mass, Center := s2680.snd.Center, Inertia := r2690 : MassData }))))
 else some s2680.snd)
 fuel ((0:Int), v2678))
 fun (j2692 : MassData → Option MassData) =>
 Let (decide (s2660.fst > (0:Int))) fun x2693 =>
 if x2693 = true then
 Rx.Bind (caromref01_RoundDiv s2660.snd.fst s2660.fst) fun r2694 =>
 Rx.Bind (caromref01_RoundDiv s2660.snd.snd.fst s2660.fst) fun r2695 =>
 j2692
 {Mass := s2660.snd.snd.snd.snd.snd.Mass, Center := {X := r2694, Y := r2695:Vec}, Inertia := s2660.snd.snd.snd.snd.snd.Inertia : MassData }
 else j2692 s2660.snd.snd.snd.snd.snd)
 fuel
 ((0:Int), (0:Int), (0:Int), (0:Int),
 {Mass:=(0:Int), Center := {X:=(0:Int), Y:=(0:Int):Vec}, Inertia:=(0:Int) : MassData },
 {Mass:=(0:Int), Center := {X:=(0:Int), Y:=(0:Int):Vec}, Inertia:=(0:Int) : MassData })
def caromref13_OfFixtures (fixtures0 : (List Fixture)) : Option MassData :=
 Let (↑fixtures0.length : Int) fun x2696 =>
 Let (decide (x2696 > (4:Int))) fun x2697 =>
 if x2697 = true then
 some {Mass:=(0:Int), Center := {X:=(0:Int), Y:=(0:Int):Vec}, Inertia:=(0:Int) : MassData }
 else
 LOOP
 (fun (rec2698 : List MassData × Int → Option MassData) (s2699 : List MassData × Int) =>
 Let (↑fixtures0.length : Int) fun x2700 =>
 Let (decide (s2699.snd < x2700)) fun x2701 =>
 if x2701 = true then
 Join
 (fun (v2702 : List MassData) =>
 Let (IntKind.i64.wrap (s2699.snd + (1:Int))) fun x2703 => rec2698 (v2702, x2703))
 fun (j2704 : List MassData → Option MassData) =>
 Chk ((0:Int) ≤ s2699.snd ∧ s2699.snd < (↑fixtures0.length : Int))
 (Let (ix fixtures0 s2699.snd) fun x2705 =>
 Let (!x2705.Sensor) fun x2706 =>
 if x2706 = true then
 Chk ((0:Int) ≤ s2699.snd ∧ s2699.snd < (↑fixtures0.length : Int))
 (Let (ix fixtures0 s2699.snd) fun x2707 =>
 Chk ((0:Int) ≤ s2699.snd ∧ s2699.snd < (↑fixtures0.length : Int))
 (Let (ix fixtures0 s2699.snd) fun x2708 =>
 Rx.Bind (caromref13_OfShape x2707.Shape x2708.Density) fun r2709 =>
 Chk ((List.length s2699.fst + [r2709].length) * (32:Nat) ≤ (140737488355328:Nat))
 (Let (s2699.fst ++ [r2709]) fun x2710 => j2704 x2710)))
 else j2704 s2699.fst)
 else Rx.Bind (caromref13_Combine s2699.fst) fun r2711 => some r2711)
 fuel ([], (0:Int))
def caromref23_MassData (b0 : Body) : Option MassData :=
 Rx.Bind (caromref13_OfFixtures b0.Fixtures) fun r2712 => some r2712
def caromref02_Normalize (a0 : Int) : Option Int :=
 Let (a0.tmod (411776:Int)) fun x2713 =>
 Join
 (fun (v2714 : Int) =>
 Join (fun (v2715 : Int) => some v2715) fun (j2716 : Int → Option Int) =>
 Let (decide (v2714 < (-205888:Int))) fun x2717 =>
 if x2717 = true then Let (IntKind.i64.wrap (v2714 + (411776:Int))) fun x2718 => j2716 x2718 else j2716 v2714)
 fun (j2719 : Int → Option Int) =>
 Let (decide (x2713 ≥ (205888:Int))) fun x2720 =>
 if x2720 = true then Let (IntKind.i64.wrap (x2713 - (411776:Int))) fun x2721 => j2719 x2721 else j2719 x2713
def caromref02_abs (x0 : Int) : Option Int :=
 Let (decide (x0 < (0:Int))) fun x2722 =>
 if x2722 = true then Let (IntKind.i64.wrap ((0:Int) - x0)) fun x2723 => some x2723 else some x0
def caromref01_Div (a0 : Int) (b1 : Int) : Option Int :=
 Rx.Bind (caromref01_Saturate a0) fun r2724 =>
 Rx.Bind (caromref01_Saturate b1) fun r2725 =>
 Let (r2725 == (0:Int)) fun x2726 =>
 Let (decide (r2724 > (0:Int))) fun x2727 =>
 Let (bif x2726 then x2727 else false) fun x2728 =>
 if x2728 = true then some (536870911:Int)
 else
 Let (r2725 == (0:Int)) fun x2729 =>
 Let (decide (r2724 < (0:Int))) fun x2730 =>
 Let (bif x2729 then x2730 else false) fun x2731 =>
 if x2731 = true then some (-536870911:Int)
 else
 Join
 (fun (v2732 : Int × Int) =>
 Let (IntKind.i64.wrap (v2732.fst * (65536:Int))) fun x2733 =>
 Rx.Bind (caromref01_RoundDiv x2733 v2732.snd) fun r2734 =>
 Rx.Bind (caromref01_Saturate r2734) fun r2735 => some r2735)
 fun (j2736 : Int × Int → Option Int) =>
 Let (decide (r2725 < (0:Int))) fun x2737 =>
 if x2737 = true then
 Let (IntKind.i64.wrap ((0:Int) - r2724)) fun x2738 =>
 Let (IntKind.i64.wrap ((0:Int) - r2725)) fun x2739 => j2736 (x2738, x2739)
 else j2736 (r2724, r2725)
def caromref02_firstQuadrant (x0 : Int) : Option Int :=
 Rx.Bind (caromref01_Div x0 (102944:Int)) fun r2740 =>
 Rx.Bind (caromref01_Mul r2740 r2740) fun r2741 =>
 Rx.Bind (caromref01_Mul r2741 (4569:Int)) fun r2742 =>
 Rx.Bind (caromref01_Sub (41906:Int) r2742) fun r2743 =>
 Rx.Bind (caromref01_Mul r2741 r2743) fun r2744 =>
 Rx.Bind (caromref01_Sub (102873:Int) r2744) fun r2745 =>
 Rx.Bind (caromref01_Mul r2740 r2745) fun r2746 => some r2746
def caromref02_Sin (a0 : Int) : Option Int :=
 Rx.Bind (caromref02_Normalize a0) fun r2747 =>
 Rx.Bind (caromref02_abs r2747) fun r2748 =>
 Join
 (fun (v2749 : Int) =>
 Let (decide (r2747 < (0:Int))) fun x2750 =>
 if x2750 = true then
 Rx.Bind (caromref02_firstQuadrant v2749) fun r2751 =>
 Let (IntKind.i64.wrap ((0:Int) - r2751)) fun x2752 => some x2752
 else Rx.Bind (caromref02_firstQuadrant v2749) fun r2753 => some r2753)
 fun (j2754 : Int → Option Int) =>
 Let (decide (r2748 > (102944:Int))) fun x2755 =>
 if x2755 = true then Let (IntKind.i64.wrap ((205888:Int) - r2748)) fun x2756 => j2754 x2756 else j2754 r2748
def caromref02_Cos (a0 : Int) : Option Int :=
 Rx.Bind (caromref02_Normalize a0) fun r2757 =>
 Rx.Bind (caromref02_abs r2757) fun r2758 =>
 Let (IntKind.i64.wrap ((102944:Int) - r2758)) fun x2759 =>
 Rx.Bind (caromref02_Sin x2759) fun r2760 => some r2760
def caromref02_Rot (a0 : Int) : Option Rot :=
 Rx.Bind (caromref02_Cos a0) fun r2761 =>
 Rx.Bind (caromref02_Sin a0) fun r2762 =>
 Let (IntKind.i64.wrap (r2761 * r2761)) fun x2763 =>
 Let (IntKind.i64.wrap (r2762 * r2762)) fun x2764 =>
 Let (IntKind.i64.wrap (x2763 + x2764)) fun x2765 =>
 Rx.Bind (caromref01_Isqrt x2765) fun r2766 =>
 Rx.Bind (caromref01_Div r2761 r2766) fun r2767 =>
 Rx.Bind (caromref01_Div r2762 r2766) fun r2768 => some {Cos := r2767, Sin := r2768 : Rot }
def caromref03_Rotate (r0 : Rot) (v1 : Vec) : Option Vec :=
 Rx.Bind (caromref01_Saturate r0.Cos) fun r2769 =>
 Rx.Bind (caromref01_Saturate r0.Sin) fun r2770 =>
 Rx.Bind (caromref03_Saturated v1) fun r2771 =>
 Let (IntKind.i64.wrap (r2769 * r2771.X)) fun x2772 =>
 Let (IntKind.i64.wrap (r2770 * r2771.Y)) fun x2773 =>
 Let (IntKind.i64.wrap (x2772 - x2773)) fun x2774 =>
 Rx.Bind (caromref01_RoundDiv x2774 (65536:Int)) fun r2775 =>
 Let (IntKind.i64.wrap (r2770 * r2771.X)) fun x2776 =>
 Let (IntKind.i64.wrap (r2769 * r2771.Y)) fun x2777 =>
 Let (IntKind.i64.wrap (x2776 + x2777)) fun x2778 =>
 Rx.Bind (caromref01_RoundDiv x2778 (65536:Int)) fun r2779 =>
 Rx.Bind (caromref03_Saturated {X := r2775, Y := r2779:Vec}) fun r2780 => some r2780
def caromref03_Add (a0 : Vec) (b1 : Vec) : Option Vec :=
 Rx.Bind (caromref01_Add a0.X b1.X) fun r2781 =>
 Rx.Bind (caromref01_Add a0.Y b1.Y) fun r2782 => some {X := r2781, Y := r2782:Vec}
def caromref04_Apply (p0 : Transform) (v1 : Vec) : Option Vec :=
 Rx.Bind (caromref02_Rot p0.Angle) fun r2783 =>
 Rx.Bind (caromref03_Rotate r2783 v1) fun r2784 =>
 Rx.Bind (caromref03_Add r2784 p0.Position) fun r2785 => some r2785
def caromref23_WorldCenter (b0 : Body) : Option Vec :=
 Rx.Bind (caromref23_MassData b0) fun r2786 =>
 Rx.Bind (caromref04_Apply b0.Transform r2786.Center) fun r2787 => some r2787
def caromref13_Inverse (h0 : MassData) (kind1 : Int) (fixedRotation2 : Bool) : Option (Int × Int) :=
 Let (kind1 != (3:Int)) fun x2788 =>
 if x2788 = true then some ((0:Int), (0:Int))
 else
 Join
 (fun (v2789 : Int) =>
 Join (fun (v2790 : Int) => some (v2789, v2790)) fun (j2791 : Int → Option (Int × Int)) =>
 Let (!fixedRotation2) fun x2792 =>
 Let (decide (h0.Inertia ≥ (1:Int))) fun x2793 =>
 Let (bif x2792 then x2793 else false) fun x2794 =>
 if x2794 = true then Rx.Bind (caromref01_Div (65536:Int) h0.Inertia) fun r2795 => j2791 r2795
 else j2791 (0:Int))
 fun (j2796 : Int → Option (Int × Int)) =>
 Let (decide (h0.Mass ≥ (1:Int))) fun x2797 =>
 if x2797 = true then Rx.Bind (caromref01_Div (65536:Int) h0.Mass) fun r2798 => j2796 r2798
 else j2796 (65536:Int)
def caromref23_SolverBody (b0 : Body) : Option SolverBody :=
 Rx.Bind (caromref23_MassData b0) fun r2799 =>
 Rx.Bind (caromref13_Inverse r2799 b0.Kind b0.FixedRotation) fun r2800 =>
 some
 {Velocity := b0.Velocity, AngularVelocity := b0.AngularVelocity, InvMass := r2800.fst, InvInertia := r2800.snd : SolverBody }
def caromref03_Scale (v0 : Vec) (k1 : Int) : Option Vec :=
 Rx.Bind (caromref01_Mul v0.X k1) fun r2801 =>
 Rx.Bind (caromref01_Mul v0.Y k1) fun r2802 => some {X := r2801, Y := r2802:Vec}
def caromref01_Clamp (x0 : Int) (low1 : Int) (high2 : Int) : Option Int :=
 Let (decide (low1 > high2)) fun x2803 =>
 Let (decide (x0 < low1)) fun x2804 =>
 Let (bif x2803 then true else x2804) fun x2805 =>
 if x2805 = true then some low1
 else Let (decide (x0 > high2)) fun x2806 => if x2806 = true then some high2 else some x0
def caromref23_ClampVelocity (b0 : Body) : Option Body :=
 Rx.Bind (caromref01_Clamp b0.Velocity.X (-16777216:Int) (16777216:Int)) fun r2807 =>
 Rx.Bind (caromref01_Clamp b0.Velocity.Y (-16777216:Int) (16777216:Int)) fun r2808 =>
 Rx.Bind (caromref01_Clamp b0.AngularVelocity (-4194304:Int) (4194304:Int)) fun r2809 =>
 some
 {ID := b0.ID, Kind := b0.Kind, Transform := b0.Transform, Velocity := {X := r2807, Y := r2808:Vec}, AngularVelocity := r2809, Force := b0.Force, Torque := b0.Torque, LinearDamping := b0.LinearDamping, AngularDamping := b0.AngularDamping, GravityScale := b0.GravityScale, Bullet := b0.Bullet, FixedRotation := b0.FixedRotation, NoSleep := b0.NoSleep, Asleep := b0.Asleep, IdleSteps := b0.IdleSteps, Fixtures := b0.Fixtures:Body}
def caromref23_wake (b0 : Body) : Option Body :=
 some
 {ID := b0.ID, Kind := b0.Kind, Transform := b0.Transform, Velocity := b0.Velocity, AngularVelocity := b0.AngularVelocity, Force := b0.Force, Torque := b0.Torque, LinearDamping := b0.LinearDamping, AngularDamping := b0.AngularDamping, GravityScale := b0.GravityScale, Bullet := b0.Bullet, FixedRotation := b0.FixedRotation, NoSleep := b0.NoSleep, Asleep:=false, IdleSteps:=(0:Int), Fixtures := b0.Fixtures:Body}
def caromref23_ApplyImpulse (b0 : Body) (point1 : Vec) (impulse2 : Vec) : Option Body :=
 Let (b0.Kind != (3:Int)) fun x2810 =>
 if x2810 = true then some b0
 else
 Rx.Bind (caromref23_SolverBody b0) fun r2811 =>
 Rx.Bind (caromref23_WorldCenter b0) fun r2812 =>
 Rx.Bind (caromref03_Sub point1 r2812) fun r2813 =>
 Rx.Bind (caromref03_Cross r2813 impulse2) fun r2814 =>
 Rx.Bind (caromref01_Mul r2814 r2811.InvInertia) fun r2815 =>
 Rx.Bind (caromref03_Scale impulse2 r2811.InvMass) fun r2816 =>
 Rx.Bind (caromref03_Add b0.Velocity r2816) fun r2817 =>
 Rx.Bind (caromref01_Add b0.AngularVelocity r2815) fun r2818 =>
 Rx.Bind
 (caromref23_ClampVelocity
 {ID := b0.ID, Kind := b0.Kind, Transform := b0.Transform, Velocity := r2817, AngularVelocity := r2818, Force := b0.Force, Torque := b0.Torque, LinearDamping := b0.LinearDamping, AngularDamping := b0.AngularDamping, GravityScale := b0.GravityScale, Bullet := b0.Bullet, FixedRotation := b0.FixedRotation, NoSleep := b0.NoSleep, Asleep := b0.Asleep, IdleSteps := b0.IdleSteps, Fixtures := b0.Fixtures:Body})
 fun r2819 => Rx.Bind (caromref23_wake r2819) fun r2820 => some r2820
def caromref23_ApplyAngularImpulse (b0 : Body) (impulse1 : Int) : Option Body :=
 Let (b0.Kind != (3:Int)) fun x2821 =>
 if x2821 = true then some b0
 else
 Rx.Bind (caromref23_SolverBody b0) fun r2822 =>
 Rx.Bind (caromref01_Mul impulse1 r2822.InvInertia) fun r2823 =>
 Rx.Bind (caromref01_Add b0.AngularVelocity r2823) fun r2824 =>
 Rx.Bind
 (caromref23_ClampVelocity
 {ID := b0.ID, Kind := b0.Kind, Transform := b0.Transform, Velocity := b0.Velocity, AngularVelocity := r2824, Force := b0.Force, Torque := b0.Torque, LinearDamping := b0.LinearDamping, AngularDamping := b0.AngularDamping, GravityScale := b0.GravityScale, Bullet := b0.Bullet, FixedRotation := b0.FixedRotation, NoSleep := b0.NoSleep, Asleep := b0.Asleep, IdleSteps := b0.IdleSteps, Fixtures := b0.Fixtures:Body})
 fun r2825 => Rx.Bind (caromref23_wake r2825) fun r2826 => some r2826
def caromref43_body (w0 : World_) (x1 : Input) : Option (World_ × Int) :=
 Rx.Bind (caromref25_FindBody w0 x1.ID) fun r2827 =>
 Let (decide (r2827 < (0:Int))) fun x2828 =>
 if x2828 = true then
 some
 (zW_,
 (8:Int))
 else
 Chk ((0:Int) ≤ r2827 ∧ r2827 < (↑w0.Bodies.length : Int))
 (Let (ix w0.Bodies r2827) fun x2829 =>
 Rx.Bind (caromref23_Clone x2829) fun r2830 =>
 Let (x1.Kind == (5:Int)) fun x2831 =>
 Let (r2830.Kind == (1:Int)) fun x2832 =>
 Let (bif x2831 then x2832 else false) fun x2833 =>
 Let (x1.Kind != (5:Int)) fun x2834 =>
 Let (x1.Kind != (4:Int)) fun x2835 =>
 Let (bif x2834 then x2835 else false) fun x2836 =>
 Let (r2830.Kind != (3:Int)) fun x2837 =>
 Let (bif x2836 then x2837 else false) fun x2838 =>
 Let (bif x2833 then true else x2838) fun x2839 =>
 if x2839 = true then
 some
 (zW_,
 (10:Int))
 else
 Join
 (fun (v2840 : World_ × Body) =>
 Rx.Bind (caromref25_Clone w0) fun r2841 =>
 Chk ((0:Int) ≤ r2827 ∧ r2827 < (↑r2841.Bodies.length : Int))
 (Chk ((0:Int) ≤ r2827 ∧ r2827 < (↑r2841.Bodies.length : Int))
 (Let (r2841.Bodies.set r2827.toNat v2840.snd) fun x2842 =>
 Rx.Bind
 (caromref25_WakeBody
 {Settings := r2841.Settings, Bodies := x2842, Joints := r2841.Joints, Contacts := r2841.Contacts, Overlaps := r2841.Overlaps, NextID := r2841.NextID, Frame := r2841.Frame:World_}
 x1.ID)
 fun r2843 => some (r2843, (0:Int)))))
 fun (j2844 : World_ × Body → Option (World_ × Int)) =>
 Let (x1.Kind == (1:Int)) fun x2845 =>
 if x2845 = true then
 Rx.Bind (caromref23_WorldCenter r2830) fun r2846 =>
 Rx.Bind (caromref23_ApplyImpulse r2830 r2846 x1.Vec) fun r2847 =>
 j2844
 (zW_,
 r2847)
 else
 Let (x1.Kind == (2:Int)) fun x2848 =>
 if x2848 = true then
 Rx.Bind (caromref03_Add r2830.Force x1.Vec) fun r2849 =>
 j2844
 (zW_,
 {ID := r2830.ID, Kind := r2830.Kind, Transform := r2830.Transform, Velocity := r2830.Velocity, AngularVelocity := r2830.AngularVelocity, Force := r2849, Torque := r2830.Torque, LinearDamping := r2830.LinearDamping, AngularDamping := r2830.AngularDamping, GravityScale := r2830.GravityScale, Bullet := r2830.Bullet, FixedRotation := r2830.FixedRotation, NoSleep := r2830.NoSleep, Asleep := r2830.Asleep, IdleSteps := r2830.IdleSteps, Fixtures := r2830.Fixtures:Body})
 else
 Let (x1.Kind == (3:Int)) fun x2850 =>
 if x2850 = true then
 Rx.Bind (caromref23_ApplyAngularImpulse r2830 x1.Value) fun r2851 =>
 j2844
 (zW_,
 r2851)
 else
 Let (x1.Kind == (4:Int)) fun x2852 =>
 if x2852 = true then
 Rx.Bind (caromref04_Valid {Position := x1.Vec, Angle := x1.Value:Transform}) fun r2853 =>
 Let (!r2853) fun x2854 =>
 if x2854 = true then
 some
 (zW_,
 (6:Int))
 else
 j2844
 (zW_,
 {ID := r2830.ID, Kind := r2830.Kind, Transform := {Position := x1.Vec, Angle := x1.Value:Transform}, Velocity := r2830.Velocity, AngularVelocity := r2830.AngularVelocity, Force := r2830.Force, Torque := r2830.Torque, LinearDamping := r2830.LinearDamping, AngularDamping := r2830.AngularDamping, GravityScale := r2830.GravityScale, Bullet := r2830.Bullet, FixedRotation := r2830.FixedRotation, NoSleep := r2830.NoSleep, Asleep := r2830.Asleep, IdleSteps := r2830.IdleSteps, Fixtures := r2830.Fixtures:Body})
 else
 Let (x1.Kind == (5:Int)) fun x2855 =>
 if x2855 = true then
 Rx.Bind
 (caromref23_ClampVelocity
 {ID := r2830.ID, Kind := r2830.Kind, Transform := r2830.Transform, Velocity := x1.Vec, AngularVelocity := x1.Value, Force := r2830.Force, Torque := r2830.Torque, LinearDamping := r2830.LinearDamping, AngularDamping := r2830.AngularDamping, GravityScale := r2830.GravityScale, Bullet := r2830.Bullet, FixedRotation := r2830.FixedRotation, NoSleep := r2830.NoSleep, Asleep := r2830.Asleep, IdleSteps := r2830.IdleSteps, Fixtures := r2830.Fixtures:Body})
 fun r2856 =>
 j2844
 (zW_,
 r2856)
 else
 j2844
 (zW_,
 r2830))
def caromref43_Apply (w0 : World_) (x1 : Input) : Option (World_ × Int × Int) :=
 Rx.Bind (caromref25_Validate w0) fun r2857 =>
 Let (r2857 != (0:Int)) fun x2858 =>
 if x2858 = true then
 some
 (zW_,
 (0:Int), (18:Int))
 else
 Rx.Bind (caromref43_Validate x1) fun r2859 =>
 Let (r2859 != (0:Int)) fun x2860 =>
 if x2860 = true then
 some
 (zW_,
 (0:Int), r2859)
 else
 Join (fun (v2861 : Int × World_ × World_) => some (v2861.snd.snd, (0:Int), v2861.fst))
 fun (j2862 : Int × World_ × World_ → Option (World_ × Int × Int)) =>
 Let (x1.Kind == (9:Int)) fun x2863 =>
 if x2863 = true then Rx.Bind (caromref25_AddBody w0 x1.Body) fun r2864 => some r2864
 else
 Let (x1.Kind == (11:Int)) fun x2865 =>
 if x2865 = true then Rx.Bind (caromref25_AddJoint w0 x1.Joint) fun r2866 => some r2866
 else
 Let (x1.Kind == (10:Int)) fun x2867 =>
 if x2867 = true then
 Rx.Bind (caromref25_RemoveBody w0 x1.ID) fun r2868 =>
 j2862
 (r2868.snd,
 zW_,
 r2868.fst)
 else
 Let (x1.Kind == (12:Int)) fun x2869 =>
 if x2869 = true then
 Rx.Bind (caromref25_RemoveJoint w0 x1.ID) fun r2870 =>
 j2862
 (r2870.snd,
 zW_,
 r2870.fst)
 else
 Join
 (fun (v2871 : Bool) =>
 if v2871 = true then
 Rx.Bind (caromref43_joint w0 x1) fun r2872 =>
 j2862
 (r2872.snd,
 zW_,
 r2872.fst)
 else
 Rx.Bind (caromref43_body w0 x1) fun r2873 =>
 j2862
 (r2873.snd,
 zW_,
 r2873.fst))
 fun (j2874 : Bool → Option (World_ × Int × Int)) =>
 Let (x1.Kind == (7:Int)) fun x2875 =>
 if x2875 = true then j2874 x2875 else Let (x1.Kind == (8:Int)) fun x2876 => j2874 x2876
def caromref22_Keys (a0 : (List PairKey)) (b1 : (List PairKey)) : Option Bool :=
 Let (↑a0.length : Int) fun x2877 =>
 Let (↑b1.length : Int) fun x2878 =>
 Let (x2877 != x2878) fun x2879 =>
 if x2879 = true then some false
 else
 LOOP
 (fun (rec2880 : Int → Option Bool) (s2881 : Int) =>
 Let (↑a0.length : Int) fun x2882 =>
 Let (decide (s2881 < x2882)) fun x2883 =>
 if x2883 = true then
 Chk ((0:Int) ≤ s2881 ∧ s2881 < (↑a0.length : Int))
 (Let (ix a0 s2881) fun x2884 =>
 Chk ((0:Int) ≤ s2881 ∧ s2881 < (↑b1.length : Int))
 (Let (ix b1 s2881) fun x2885 =>
 Let
 (!(decide (x2884.BodyA = x2885.BodyA) &&
 (decide (x2884.FixtureA = x2885.FixtureA) &&
 (decide (x2884.BodyB = x2885.BodyB) && decide (x2884.FixtureB = x2885.FixtureB)))))
 fun x2886 =>
 if x2886 = true then some false else Let (IntKind.i64.wrap (s2881 + (1:Int))) fun x2887 => rec2880 x2887))
 else some true)
 fuel (0:Int)
def caromref16_Equal (a0 : Manifold) (b1 : Manifold) : Option Bool :=
 Let (!(decide (a0.Normal.X = b1.Normal.X) && decide (a0.Normal.Y = b1.Normal.Y))) fun x2888 =>
 Let (↑a0.Points.length : Int) fun x2889 =>
 Let (↑b1.Points.length : Int) fun x2890 =>
 Let (x2889 != x2890) fun x2891 =>
 Let (bif x2888 then true else x2891) fun x2892 =>
 if x2892 = true then some false
 else
 LOOP
 (fun (rec2893 : Int → Option Bool) (s2894 : Int) =>
 Let (↑a0.Points.length : Int) fun x2895 =>
 Let (decide (s2894 < x2895)) fun x2896 =>
 if x2896 = true then
 Chk ((0:Int) ≤ s2894 ∧ s2894 < (↑a0.Points.length : Int))
 (Let (ix a0.Points s2894) fun x2897 =>
 Chk ((0:Int) ≤ s2894 ∧ s2894 < (↑b1.Points.length : Int))
 (Let (ix b1.Points s2894) fun x2898 =>
 Let
 (!(decide (x2897.Point.X = x2898.Point.X) && decide (x2897.Point.Y = x2898.Point.Y) &&
 (decide (x2897.Separation = x2898.Separation) &&
 (decide (x2897.ID = x2898.ID) &&
 (decide (x2897.NormalImpulse = x2898.NormalImpulse) && decide (x2897.TangentImpulse = x2898.TangentImpulse))))))
 fun x2899 =>
 if x2899 = true then some false else Let (IntKind.i64.wrap (s2894 + (1:Int))) fun x2900 => rec2893 x2900))
 else some true)
 fuel (0:Int)
def caromref25_Equal (a0 : World_) (b1 : World_) : Option Bool :=
 Let
 (!(decide (a0.Settings.TimeStep = b1.Settings.TimeStep) &&
 (decide (a0.Settings.Gravity.X = b1.Settings.Gravity.X) && decide (a0.Settings.Gravity.Y = b1.Settings.Gravity.Y) &&
 (decide (a0.Settings.Iterations = b1.Settings.Iterations) &&
 decide (a0.Settings.SleepSteps = b1.Settings.SleepSteps)))))
 fun x2901 =>
 Let (a0.NextID != b1.NextID) fun x2902 =>
 Let (bif x2901 then true else x2902) fun x2903 =>
 Let (a0.Frame != b1.Frame) fun x2904 =>
 Let (bif x2903 then true else x2904) fun x2905 =>
 Let (↑a0.Bodies.length : Int) fun x2906 =>
 Let (↑b1.Bodies.length : Int) fun x2907 =>
 Let (x2906 != x2907) fun x2908 =>
 Let (bif x2905 then true else x2908) fun x2909 =>
 Let (↑a0.Joints.length : Int) fun x2910 =>
 Let (↑b1.Joints.length : Int) fun x2911 =>
 Let (x2910 != x2911) fun x2912 =>
 Let (bif x2909 then true else x2912) fun x2913 =>
 Let (↑a0.Contacts.length : Int) fun x2914 =>
 Let (↑b1.Contacts.length : Int) fun x2915 =>
 Let (x2914 != x2915) fun x2916 =>
 Let (bif x2913 then true else x2916) fun x2917 =>
 Rx.Bind (if (x2917 == false) = true then caromref22_Keys a0.Overlaps b1.Overlaps else some default)
 fun r2918 =>
 Let (!r2918) fun x2919 =>
 Let (bif x2917 then true else x2919) fun x2920 =>
 if x2920 = true then some false
 else
 LOOP
 (fun (rec2921 : Int → Option Bool) (s2922 : Int) =>
 Let (↑a0.Bodies.length : Int) fun x2923 =>
 Let (decide (s2922 < x2923)) fun x2924 =>
 if x2924 = true then
 Chk ((0:Int) ≤ s2922 ∧ s2922 < (↑a0.Bodies.length : Int))
 (Let (ix a0.Bodies s2922) fun x2925 =>
 Chk ((0:Int) ≤ s2922 ∧ s2922 < (↑b1.Bodies.length : Int))
 (Let (ix b1.Bodies s2922) fun x2926 =>
 Rx.Bind (caromref23_Equal x2925 x2926) fun r2927 =>
 Let (!r2927) fun x2928 =>
 if x2928 = true then some false else Let (IntKind.i64.wrap (s2922 + (1:Int))) fun x2929 => rec2921 x2929))
 else
 LOOP
 (fun (rec2930 : Int → Option Bool) (s2931 : Int) =>
 Let (↑a0.Joints.length : Int) fun x2932 =>
 Let (decide (s2931 < x2932)) fun x2933 =>
 if x2933 = true then
 Chk ((0:Int) ≤ s2931 ∧ s2931 < (↑a0.Joints.length : Int))
 (Let (ix a0.Joints s2931) fun x2934 =>
 Chk ((0:Int) ≤ s2931 ∧ s2931 < (↑b1.Joints.length : Int))
 (Let (ix b1.Joints s2931) fun x2935 =>
 Let
 (!(decide (x2934.ID = x2935.ID) &&
 (decide (x2934.Kind = x2935.Kind) &&
 (decide (x2934.BodyA = x2935.BodyA) &&
 (decide (x2934.BodyB = x2935.BodyB) &&
 (decide (x2934.AnchorA.X = x2935.AnchorA.X) && decide (x2934.AnchorA.Y = x2935.AnchorA.Y) &&
 (decide (x2934.AnchorB.X = x2935.AnchorB.X) && decide (x2934.AnchorB.Y = x2935.AnchorB.Y) &&
 (decide (x2934.Axis.X = x2935.Axis.X) && decide (x2934.Axis.Y = x2935.Axis.Y) &&
 (decide (x2934.ReferenceAngle = x2935.ReferenceAngle) &&
 (decide (x2934.EnableLimit = x2935.EnableLimit) &&
 (decide (x2934.Lower = x2935.Lower) &&
 (decide (x2934.Upper = x2935.Upper) &&
 (decide (x2934.EnableMotor = x2935.EnableMotor) &&
 (decide (x2934.MotorSpeed = x2935.MotorSpeed) &&
 (decide (x2934.MaxForce = x2935.MaxForce) &&
 (decide (x2934.Softness = x2935.Softness) &&
 (decide (x2934.BreakForce = x2935.BreakForce) &&
 (decide (x2934.CollideConnected = x2935.CollideConnected) &&
 (decide (x2934.Impulses.fst = x2935.Impulses.fst) &&
 (decide (x2934.Impulses.snd.fst = x2935.Impulses.snd.fst) &&
 (decide (x2934.Impulses.snd.snd.fst = x2935.Impulses.snd.snd.fst) &&
 decide (x2934.Impulses.snd.snd.snd = x2935.Impulses.snd.snd.snd))))))))))))))))))))))
 fun x2936 =>
 if x2936 = true then some false else Let (IntKind.i64.wrap (s2931 + (1:Int))) fun x2937 => rec2930 x2937))
 else
 LOOP
 (fun (rec2938 : Int → Option Bool) (s2939 : Int) =>
 Let (↑a0.Contacts.length : Int) fun x2940 =>
 Let (decide (s2939 < x2940)) fun x2941 =>
 if x2941 = true then
 Chk ((0:Int) ≤ s2939 ∧ s2939 < (↑a0.Contacts.length : Int))
 (Let (ix a0.Contacts s2939) fun x2942 =>
 Chk ((0:Int) ≤ s2939 ∧ s2939 < (↑b1.Contacts.length : Int))
 (Let (ix b1.Contacts s2939) fun x2943 =>
 Let
 (!(decide (x2942.Key.BodyA = x2943.Key.BodyA) &&
 (decide (x2942.Key.FixtureA = x2943.Key.FixtureA) &&
 (decide (x2942.Key.BodyB = x2943.Key.BodyB) && decide (x2942.Key.FixtureB = x2943.Key.FixtureB)))))
 fun x2944 =>
 Chk ((x2944 == false) = true → (0:Int) ≤ s2939 ∧ s2939 < (↑a0.Contacts.length : Int))
 (Let (ix a0.Contacts s2939) fun x2945 =>
 Chk ((x2944 == false) = true → (0:Int) ≤ s2939 ∧ s2939 < (↑b1.Contacts.length : Int))
 (Let (ix b1.Contacts s2939) fun x2946 =>
 Rx.Bind (if (x2944 == false) = true then caromref16_Equal x2945.Manifold x2946.Manifold else some default)
 fun r2947 =>
 Let (!r2947) fun x2948 =>
 Let (bif x2944 then true else x2948) fun x2949 =>
 if x2949 = true then some false else Let (IntKind.i64.wrap (s2939 + (1:Int))) fun x2950 => rec2938 x2950))))
 else some true)
 fuel (0:Int))
 fuel (0:Int))
 fuel (0:Int)
def caromlaw43_InputApply (w0 : World_) (x1 : Input) : Option Bool :=
 Rx.Bind (caromref25_Few w0) fun r2951 =>
 Let (!r2951) fun x2952 =>
 Rx.Bind (if (x2952 == false) = true then caromlaw43_few [x1] else some default) fun r2953 =>
 Let (!r2953) fun x2954 =>
 Let (bif x2952 then true else x2954) fun x2955 =>
 if x2955 = true then Rx.Bind caromlaw43_example fun r2956 => some r2956
 else
 Rx.Bind (input_Apply w0 x1) fun r2957 =>
 Rx.Bind (caromref43_Apply w0 x1) fun r2958 =>
 Rx.Bind (caromref25_Equal r2957.fst r2958.fst) fun r2959 =>
 Let (r2957.snd.fst == r2958.snd.fst) fun x2960 =>
 Let (bif r2959 then x2960 else false) fun x2961 =>
 Let (r2957.snd.snd == r2958.snd.snd) fun x2962 =>
 Let (bif x2961 then x2962 else false) fun x2963 =>
 Rx.Bind (if (x2963 == true) = true then caromlaw43_example else some default) fun r2964 =>
 Let (bif x2963 then r2964 else false) fun x2965 => some x2965
def caromref43_Clone (x0 : Input) : Option Input :=
 Rx.Bind (caromref23_Clone x0.Body) fun r2966 =>
 some {Kind := x0.Kind, ID := x0.ID, Vec := x0.Vec, Value := x0.Value, Body := r2966, Joint := x0.Joint:Input}
def input_Clone (x0 : Input) : Option Input :=
 Rx.Bind (body_Clone x0.Body) fun r2967 =>
 some {Kind := x0.Kind, ID := x0.ID, Vec := x0.Vec, Value := x0.Value, Body := r2967, Joint := x0.Joint:Input}
def input_Equal (a0 : Input) (b1 : Input) : Option Bool :=
 Let (a0.Kind == b1.Kind) fun x2968 =>
 Let (a0.ID == b1.ID) fun x2969 =>
 Let (bif x2968 then x2969 else false) fun x2970 =>
 Let (decide (a0.Vec.X = b1.Vec.X) && decide (a0.Vec.Y = b1.Vec.Y)) fun x2971 =>
 Let (bif x2970 then x2971 else false) fun x2972 =>
 Let (a0.Value == b1.Value) fun x2973 =>
 Let (bif x2972 then x2973 else false) fun x2974 =>
 Rx.Bind (if (x2974 == true) = true then body_Equal a0.Body b1.Body else some default) fun r2975 =>
 Let (bif x2974 then r2975 else false) fun x2976 =>
 Let
 (decide (a0.Joint.ID = b1.Joint.ID) &&
 (decide (a0.Joint.Kind = b1.Joint.Kind) &&
 (decide (a0.Joint.BodyA = b1.Joint.BodyA) &&
 (decide (a0.Joint.BodyB = b1.Joint.BodyB) &&
 (decide (a0.Joint.AnchorA.X = b1.Joint.AnchorA.X) && decide (a0.Joint.AnchorA.Y = b1.Joint.AnchorA.Y) &&
 (decide (a0.Joint.AnchorB.X = b1.Joint.AnchorB.X) && decide (a0.Joint.AnchorB.Y = b1.Joint.AnchorB.Y) &&
 (decide (a0.Joint.Axis.X = b1.Joint.Axis.X) && decide (a0.Joint.Axis.Y = b1.Joint.Axis.Y) &&
 (decide (a0.Joint.ReferenceAngle = b1.Joint.ReferenceAngle) &&
 (decide (a0.Joint.EnableLimit = b1.Joint.EnableLimit) &&
 (decide (a0.Joint.Lower = b1.Joint.Lower) &&
 (decide (a0.Joint.Upper = b1.Joint.Upper) &&
 (decide (a0.Joint.EnableMotor = b1.Joint.EnableMotor) &&
 (decide (a0.Joint.MotorSpeed = b1.Joint.MotorSpeed) &&
 (decide (a0.Joint.MaxForce = b1.Joint.MaxForce) &&
 (decide (a0.Joint.Softness = b1.Joint.Softness) &&
 (decide (a0.Joint.BreakForce = b1.Joint.BreakForce) &&
 (decide (a0.Joint.CollideConnected = b1.Joint.CollideConnected) &&
 (decide (a0.Joint.Impulses.fst = b1.Joint.Impulses.fst) &&
 (decide (a0.Joint.Impulses.snd.fst = b1.Joint.Impulses.snd.fst) &&
 (decide (a0.Joint.Impulses.snd.snd.fst = b1.Joint.Impulses.snd.snd.fst) &&
 decide (a0.Joint.Impulses.snd.snd.snd = b1.Joint.Impulses.snd.snd.snd)))))))))))))))))))))
 fun x2977 => Let (bif x2976 then x2977 else false) fun x2978 => some x2978
def caromref43_Equal (a0 : Input) (b1 : Input) : Option Bool :=
 Let (a0.Kind == b1.Kind) fun x2979 =>
 Let (a0.ID == b1.ID) fun x2980 =>
 Let (bif x2979 then x2980 else false) fun x2981 =>
 Let (decide (a0.Vec.X = b1.Vec.X) && decide (a0.Vec.Y = b1.Vec.Y)) fun x2982 =>
 Let (bif x2981 then x2982 else false) fun x2983 =>
 Let (a0.Value == b1.Value) fun x2984 =>
 Let (bif x2983 then x2984 else false) fun x2985 =>
 Let
 (decide (a0.Joint.ID = b1.Joint.ID) &&
 (decide (a0.Joint.Kind = b1.Joint.Kind) &&
 (decide (a0.Joint.BodyA = b1.Joint.BodyA) &&
 (decide (a0.Joint.BodyB = b1.Joint.BodyB) &&
 (decide (a0.Joint.AnchorA.X = b1.Joint.AnchorA.X) && decide (a0.Joint.AnchorA.Y = b1.Joint.AnchorA.Y) &&
 (decide (a0.Joint.AnchorB.X = b1.Joint.AnchorB.X) && decide (a0.Joint.AnchorB.Y = b1.Joint.AnchorB.Y) &&
 (decide (a0.Joint.Axis.X = b1.Joint.Axis.X) && decide (a0.Joint.Axis.Y = b1.Joint.Axis.Y) &&
 (decide (a0.Joint.ReferenceAngle = b1.Joint.ReferenceAngle) &&
 (decide (a0.Joint.EnableLimit = b1.Joint.EnableLimit) &&
 (decide (a0.Joint.Lower = b1.Joint.Lower) &&
 (decide (a0.Joint.Upper = b1.Joint.Upper) &&
 (decide (a0.Joint.EnableMotor = b1.Joint.EnableMotor) &&
 (decide (a0.Joint.MotorSpeed = b1.Joint.MotorSpeed) &&
 (decide (a0.Joint.MaxForce = b1.Joint.MaxForce) &&
 (decide (a0.Joint.Softness = b1.Joint.Softness) &&
 (decide (a0.Joint.BreakForce = b1.Joint.BreakForce) &&
 (decide (a0.Joint.CollideConnected = b1.Joint.CollideConnected) &&
 (decide (a0.Joint.Impulses.fst = b1.Joint.Impulses.fst) &&
 (decide (a0.Joint.Impulses.snd.fst = b1.Joint.Impulses.snd.fst) &&
 (decide (a0.Joint.Impulses.snd.snd.fst = b1.Joint.Impulses.snd.snd.fst) &&
 decide (a0.Joint.Impulses.snd.snd.snd = b1.Joint.Impulses.snd.snd.snd)))))))))))))))))))))
 fun x2986 =>
 Let (bif x2985 then x2986 else false) fun x2987 =>
 Rx.Bind (if (x2987 == true) = true then caromref23_Equal a0.Body b1.Body else some default) fun r2988 =>
 Let (bif x2987 then r2988 else false) fun x2989 => some x2989
def caromlaw43_InputCloneEqual (a0 : Input) (b1 : Input) : Option Bool :=
 Rx.Bind (caromlaw43_few [a0, b1]) fun r2990 =>
 Let (!r2990) fun x2991 =>
 if x2991 = true then Rx.Bind caromlaw43_example fun r2992 => some r2992
 else
 Rx.Bind (caromref43_Clone a0) fun r2993 =>
 Rx.Bind (input_Clone a0) fun r2994 =>
 Rx.Bind (input_Equal a0 b1) fun r2995 =>
 Rx.Bind (caromref43_Equal a0 b1) fun r2996 =>
 Let (r2995 != r2996) fun x2997 =>
 Rx.Bind (if (x2997 == false) = true then input_Equal a0 r2994 else some default) fun r2998 =>
 Let (!r2998) fun x2999 =>
 Let (bif x2997 then true else x2999) fun x3000 =>
 Rx.Bind (if (x3000 == false) = true then caromref43_Equal a0 r2994 else some default) fun r3001 =>
 Let (!r3001) fun x3002 =>
 Let (bif x3000 then true else x3002) fun x3003 => if x3003 = true then some false else none
def input_ApplyAll (w0 : World_) (inputs1 : (List Input)) : Option (World_ × (List Int)) :=
 Let (↑inputs1.length : Int) fun x3004 =>
 Chk
 ((0:Int) ≤ (0:Int) ∧
 (0:Int) ≤ x3004 ∧ (↑(8:Nat) : Int) * x3004 ≤ (281474976710656:Int) ∧ x3004 ≤ (9223372036854775807:Int))
 (Let (List.replicate (0:Nat) (0:Int)) fun x3005 =>
 Rx.Bind (world_Validate w0) fun r3006 =>
 Let (r3006 != (0:Int)) fun x3007 =>
 if x3007 = true then
 Let (↑inputs1.length : Int) fun x3008 =>
 LOOP
 (fun (rec3009 : List Int × Int → Option (World_ × List Int)) (s3010 : List Int × Int) =>
 Let (decide (s3010.snd < x3008)) fun x3011 =>
 if x3011 = true then
 Chk ((List.length s3010.fst + (1:Nat)) * (8:Nat) ≤ (140737488355328:Nat))
 (Let (s3010.fst ++ [(18:Int)]) fun x3012 =>
 Let (IntKind.i64.wrap (s3010.snd + (1:Int))) fun x3013 => rec3009 (x3012, x3013))
 else
 some
 (zW_,
 s3010.fst))
 fuel (x3005, (0:Int))
 else
 Rx.Bind (world_Clone w0) fun r3014 =>
 Let (↑inputs1.length : Int) fun x3015 =>
 LOOP
 (fun (rec3016 : List Int × Int × World_ → Option (World_ × List Int)) (s3017 : List Int × Int × World_) =>
 Let (decide (s3017.snd.fst < x3015)) fun x3018 =>
 if x3018 = true then
 Chk ((0:Int) ≤ s3017.snd.fst ∧ s3017.snd.fst < (↑inputs1.length : Int))
 (Let (ix inputs1 s3017.snd.fst) fun x3019 =>
 Rx.Bind (input_Apply s3017.snd.snd x3019) fun r3020 =>
 Join
 (fun (v3021 : World_) =>
 Chk ((List.length s3017.fst + [r3020.snd.snd].length) * (8:Nat) ≤ (140737488355328:Nat))
 (Let (s3017.fst ++ [r3020.snd.snd]) fun x3022 =>
 Let (IntKind.i64.wrap (s3017.snd.fst + (1:Int))) fun x3023 => rec3016 (x3022, x3023, v3021)))
 fun (j3024 : World_ → Option (World_ × List Int)) =>
 Let (r3020.snd.snd == (0:Int)) fun x3025 => if x3025 = true then j3024 r3020.fst else j3024 s3017.snd.snd)
 else some (s3017.snd.snd, s3017.fst))
 fuel (x3005, (0:Int), r3014))
def caromref43_ApplyAll (w0 : World_) (l1 : (List Input)) : Option (World_ × (List Int)) :=
 Rx.Bind (caromref25_Validate w0) fun r3026 =>
 Let (r3026 != (0:Int)) fun x3027 =>
 if x3027 = true then
 LOOP
 (fun (rec3028 : List Int × Int → Option (World_ × List Int)) (s3029 : List Int × Int) =>
 Let (↑l1.length : Int) fun x3030 =>
 Let (decide (s3029.snd < x3030)) fun x3031 =>
 if x3031 = true then
 Chk ((List.length s3029.fst + (1:Nat)) * (8:Nat) ≤ (140737488355328:Nat))
 (Let (s3029.fst ++ [(18:Int)]) fun x3032 =>
 Let (IntKind.i64.wrap (s3029.snd + (1:Int))) fun x3033 => rec3028 (x3032, x3033))
 else
 some
 (zW_,
 s3029.fst))
 fuel ([], (0:Int))
 else
 Rx.Bind (caromref25_Clone w0) fun r3034 =>
 LOOP
 (fun (rec3035 : List Int × Int × World_ → Option (World_ × List Int)) (s3036 : List Int × Int × World_) =>
 Let (↑l1.length : Int) fun x3037 =>
 Let (decide (s3036.snd.fst < x3037)) fun x3038 =>
 if x3038 = true then
 Chk ((0:Int) ≤ s3036.snd.fst ∧ s3036.snd.fst < (↑l1.length : Int))
 (Let (ix l1 s3036.snd.fst) fun x3039 =>
 Rx.Bind (caromref43_Apply s3036.snd.snd x3039) fun r3040 =>
 Join
 (fun (v3041 : World_) =>
 Chk ((List.length s3036.fst + [r3040.snd.snd].length) * (8:Nat) ≤ (140737488355328:Nat))
 (Let (s3036.fst ++ [r3040.snd.snd]) fun x3042 =>
 Let (IntKind.i64.wrap (s3036.snd.fst + (1:Int))) fun x3043 => rec3035 (x3042, x3043, v3041)))
 fun (j3044 : World_ → Option (World_ × List Int)) =>
 Let (r3040.snd.snd == (0:Int)) fun x3045 => if x3045 = true then j3044 r3040.fst else j3044 s3036.snd.snd)
 else some (s3036.snd.snd, s3036.fst))
 fuel ([], (0:Int), r3034)
def caromlaw43_InputApplyAll (w0 : World_) (l1 : (List Input)) : Option Bool :=
 Rx.Bind (caromref25_Few w0) fun r3046 =>
 Let (!r3046) fun x3047 =>
 Rx.Bind (if (x3047 == false) = true then caromlaw43_few l1 else some default) fun r3048 =>
 Let (!r3048) fun x3049 =>
 Let (bif x3047 then true else x3049) fun x3050 =>
 if x3050 = true then Rx.Bind caromlaw43_example fun r3051 => some r3051
 else
 Rx.Bind (input_ApplyAll w0 l1) fun r3052 =>
 Rx.Bind (caromref43_ApplyAll w0 l1) fun r3053 =>
 Rx.Bind (caromref25_Equal r3052.fst r3053.fst) fun r3054 =>
 Let (!r3054) fun x3055 =>
 Let (↑(List.length r3052.snd) : Int) fun x3056 =>
 Let (↑(List.length r3053.snd) : Int) fun x3057 =>
 Let (x3056 != x3057) fun x3058 =>
 Let (bif x3055 then true else x3058) fun x3059 =>
 if x3059 = true then some false
 else
 LOOP
 (fun (rec3060 : Int → Option Bool) (s3061 : Int) =>
 Let (↑(List.length r3052.snd) : Int) fun x3062 =>
 Let (decide (s3061 < x3062)) fun x3063 =>
 if x3063 = true then
 Chk ((0:Int) ≤ s3061 ∧ s3061 < (↑(List.length r3052.snd) : Int))
 (Let (ix r3052.snd s3061) fun x3064 =>
 Chk ((0:Int) ≤ s3061 ∧ s3061 < (↑(List.length r3053.snd) : Int))
 (Let (ix r3053.snd s3061) fun x3065 =>
 Let (x3064 != x3065) fun x3066 =>
 if x3066 = true then some false else Let (IntKind.i64.wrap (s3061 + (1:Int))) fun x3067 => rec3060 x3067))
 else Rx.Bind caromlaw43_example fun r3068 => some r3068)
 fuel (0:Int)
def caromlaw43_InputStaysValid (w0 : World_) (l1 : (List Input)) : Option Bool :=
 Rx.Bind (caromref25_Few w0) fun r3069 =>
 Let (!r3069) fun x3070 =>
 Rx.Bind (if (x3070 == false) = true then caromlaw43_few l1 else some default) fun r3071 =>
 Let (!r3071) fun x3072 =>
 Let (bif x3070 then true else x3072) fun x3073 =>
 Rx.Bind (if (x3073 == false) = true then world_Validate w0 else some default) fun r3074 =>
 Let (r3074 != (0:Int)) fun x3075 =>
 Let (bif x3073 then true else x3075) fun x3076 =>
 if x3076 = true then Rx.Bind caromlaw43_example fun r3077 => some r3077
 else
 Rx.Bind (caromref25_Clone w0) fun r3078 =>
 Rx.Bind (input_ApplyAll w0 l1) fun r3079 =>
 Rx.Bind (world_Validate r3079.fst) fun r3080 =>
 Let (r3080 != (0:Int)) fun x3081 =>
 Let (↑(List.length r3079.snd) : Int) fun x3082 =>
 Let (↑l1.length : Int) fun x3083 =>
 Let (x3082 != x3083) fun x3084 =>
 Let (bif x3081 then true else x3084) fun x3085 =>
 Rx.Bind (if (x3085 == false) = true then caromref25_Equal w0 r3078 else some default) fun r3086 =>
 Let (!r3086) fun x3087 =>
 Let (bif x3085 then true else x3087) fun x3088 =>
 Let (r3079.fst.Frame != w0.Frame) fun x3089 =>
 Let (bif x3088 then true else x3089) fun x3090 =>
 Let
 (!(decide (r3079.fst.Settings.TimeStep = w0.Settings.TimeStep) &&
 (decide (r3079.fst.Settings.Gravity.X = w0.Settings.Gravity.X) &&
 decide (r3079.fst.Settings.Gravity.Y = w0.Settings.Gravity.Y) &&
 (decide (r3079.fst.Settings.Iterations = w0.Settings.Iterations) &&
 decide (r3079.fst.Settings.SleepSteps = w0.Settings.SleepSteps)))))
 fun x3091 =>
 Let (bif x3090 then true else x3091) fun x3092 =>
 if x3092 = true then some false
 else
 LOOP
 (fun (rec3093 : Int → Option Bool) (s3094 : Int) =>
 Let (↑l1.length : Int) fun x3095 =>
 Let (decide (s3094 < x3095)) fun x3096 =>
 if x3096 = true then
 Chk ((0:Int) ≤ s3094 ∧ s3094 < (↑(List.length r3079.snd) : Int))
 (Let (ix r3079.snd s3094) fun x3097 =>
 Let (x3097 == (0:Int)) fun x3098 =>
 Chk ((x3098 == true) = true → (0:Int) ≤ s3094 ∧ s3094 < (↑l1.length : Int))
 (Let (ix l1 s3094) fun x3099 =>
 Rx.Bind (if (x3098 == true) = true then input_Validate x3099 else some default) fun r3100 =>
 Let (r3100 != (0:Int)) fun x3101 =>
 Let (bif x3098 then x3101 else false) fun x3102 =>
 if x3102 = true then some false else Let (IntKind.i64.wrap (s3094 + (1:Int))) fun x3103 => rec3093 x3103))
 else Rx.Bind caromlaw43_example fun r3104 => some r3104)
 fuel (0:Int)
def slices_Equal_117 (s10 : (List ContactPoint)) (s21 : (List ContactPoint)) : Option Bool :=
 Let (↑s10.length : Int) fun x3105 =>
 Let (↑s21.length : Int) fun x3106 =>
 Let (x3105 != x3106) fun x3107 =>
 if x3107 = true then some false
 else
 Let (↑s10.length : Int) fun x3108 =>
 LOOP
 (fun (rec3109 : Int → Option Bool) (s3110 : Int) =>
 Let (decide (s3110 < x3108)) fun x3111 =>
 if x3111 = true then
 Chk ((0:Int) ≤ s3110 ∧ s3110 < (↑s10.length : Int))
 (Let (ix s10 s3110) fun x3112 =>
 Chk ((0:Int) ≤ s3110 ∧ s3110 < (↑s21.length : Int))
 (Let (ix s21 s3110) fun x3113 =>
 Let
 (!(decide (x3112.Point.X = x3113.Point.X) && decide (x3112.Point.Y = x3113.Point.Y) &&
 (decide (x3112.Separation = x3113.Separation) &&
 (decide (x3112.ID = x3113.ID) &&
 (decide (x3112.NormalImpulse = x3113.NormalImpulse) && decide (x3112.TangentImpulse = x3113.TangentImpulse))))))
 fun x3114 =>
 if x3114 = true then some false else Let (IntKind.i64.wrap (s3110 + (1:Int))) fun x3115 => rec3109 x3115))
 else some true)
 fuel (0:Int)
def manifold_Equal (a0 : Manifold) (b1 : Manifold) : Option Bool :=
 Let (decide (a0.Normal.X = b1.Normal.X) && decide (a0.Normal.Y = b1.Normal.Y)) fun x3116 =>
 Rx.Bind (if (x3116 == true) = true then slices_Equal_117 a0.Points b1.Points else some default) fun r3117 =>
 Let (bif x3116 then r3117 else false) fun x3118 => some x3118
def world_Equal_1 (x0 : Contact) (y1 : Contact) : Option Bool :=
 Let
 (decide (x0.Key.BodyA = y1.Key.BodyA) &&
 (decide (x0.Key.FixtureA = y1.Key.FixtureA) &&
 (decide (x0.Key.BodyB = y1.Key.BodyB) && decide (x0.Key.FixtureB = y1.Key.FixtureB))))
 fun x3119 =>
 Rx.Bind (if (x3119 == true) = true then manifold_Equal x0.Manifold y1.Manifold else some default) fun r3120 =>
 Let (bif x3119 then r3120 else false) fun x3121 => some x3121
def slices_EqualFunc (s10 : (List Body)) (s21 : (List Body)) (eq2 : ((Body × Body) → Option Bool)) : Option Bool :=
 Let (↑s10.length : Int) fun x3122 =>
 Let (↑s21.length : Int) fun x3123 =>
 Let (x3122 != x3123) fun x3124 =>
 if x3124 = true then some false
 else
 Let (↑s10.length : Int) fun x3125 =>
 LOOP
 (fun (rec3126 : Int → Option Bool) (s3127 : Int) =>
 Let (decide (s3127 < x3125)) fun x3128 =>
 if x3128 = true then
 Chk ((0:Int) ≤ s3127 ∧ s3127 < (↑s10.length : Int))
 (Let (ix s10 s3127) fun x3129 =>
 Chk ((0:Int) ≤ s3127 ∧ s3127 < (↑s21.length : Int))
 (Let (ix s21 s3127) fun x3130 =>
 Rx.Bind (eq2 (x3129, x3130)) fun r3131 =>
 Let (!r3131) fun x3132 =>
 if x3132 = true then some false else Let (IntKind.i64.wrap (s3127 + (1:Int))) fun x3133 => rec3126 x3133))
 else some true)
 fuel (0:Int)
def slices_Equal (s10 : (List Joint)) (s21 : (List Joint)) : Option Bool :=
 Let (↑s10.length : Int) fun x3134 =>
 Let (↑s21.length : Int) fun x3135 =>
 Let (x3134 != x3135) fun x3136 =>
 if x3136 = true then some false
 else
 Let (↑s10.length : Int) fun x3137 =>
 LOOP
 (fun (rec3138 : Int → Option Bool) (s3139 : Int) =>
 Let (decide (s3139 < x3137)) fun x3140 =>
 if x3140 = true then
 Chk ((0:Int) ≤ s3139 ∧ s3139 < (↑s10.length : Int))
 (Let (ix s10 s3139) fun x3141 =>
 Chk ((0:Int) ≤ s3139 ∧ s3139 < (↑s21.length : Int))
 (Let (ix s21 s3139) fun x3142 =>
 Let
 (!(decide (x3141.ID = x3142.ID) &&
 (decide (x3141.Kind = x3142.Kind) &&
 (decide (x3141.BodyA = x3142.BodyA) &&
 (decide (x3141.BodyB = x3142.BodyB) &&
 (decide (x3141.AnchorA.X = x3142.AnchorA.X) && decide (x3141.AnchorA.Y = x3142.AnchorA.Y) &&
 (decide (x3141.AnchorB.X = x3142.AnchorB.X) && decide (x3141.AnchorB.Y = x3142.AnchorB.Y) &&
 (decide (x3141.Axis.X = x3142.Axis.X) && decide (x3141.Axis.Y = x3142.Axis.Y) &&
 (decide (x3141.ReferenceAngle = x3142.ReferenceAngle) &&
 (decide (x3141.EnableLimit = x3142.EnableLimit) &&
 (decide (x3141.Lower = x3142.Lower) &&
 (decide (x3141.Upper = x3142.Upper) &&
 (decide (x3141.EnableMotor = x3142.EnableMotor) &&
 (decide (x3141.MotorSpeed = x3142.MotorSpeed) &&
 (decide (x3141.MaxForce = x3142.MaxForce) &&
 (decide (x3141.Softness = x3142.Softness) &&
 (decide (x3141.BreakForce = x3142.BreakForce) &&
 (decide (x3141.CollideConnected = x3142.CollideConnected) &&
 (decide (x3141.Impulses.fst = x3142.Impulses.fst) &&
 (decide (x3141.Impulses.snd.fst = x3142.Impulses.snd.fst) &&
 (decide (x3141.Impulses.snd.snd.fst = x3142.Impulses.snd.snd.fst) &&
 decide (x3141.Impulses.snd.snd.snd = x3142.Impulses.snd.snd.snd))))))))))))))))))))))
 fun x3143 =>
 if x3143 = true then some false else Let (IntKind.i64.wrap (s3139 + (1:Int))) fun x3144 => rec3138 x3144))
 else some true)
 fuel (0:Int)
def slices_EqualFunc_61 (s10 : (List Contact)) (s21 : (List Contact)) (eq2 : ((Contact × Contact) → Option Bool)) : Option Bool :=
 Let (↑s10.length : Int) fun x3145 =>
 Let (↑s21.length : Int) fun x3146 =>
 Let (x3145 != x3146) fun x3147 =>
 if x3147 = true then some false
 else
 Let (↑s10.length : Int) fun x3148 =>
 LOOP
 (fun (rec3149 : Int → Option Bool) (s3150 : Int) =>
 Let (decide (s3150 < x3148)) fun x3151 =>
 if x3151 = true then
 Chk ((0:Int) ≤ s3150 ∧ s3150 < (↑s10.length : Int))
 (Let (ix s10 s3150) fun x3152 =>
 Chk ((0:Int) ≤ s3150 ∧ s3150 < (↑s21.length : Int))
 (Let (ix s21 s3150) fun x3153 =>
 Rx.Bind (eq2 (x3152, x3153)) fun r3154 =>
 Let (!r3154) fun x3155 =>
 if x3155 = true then some false else Let (IntKind.i64.wrap (s3150 + (1:Int))) fun x3156 => rec3149 x3156))
 else some true)
 fuel (0:Int)
def slices_Equal_62 (s10 : (List PairKey)) (s21 : (List PairKey)) : Option Bool :=
 Let (↑s10.length : Int) fun x3157 =>
 Let (↑s21.length : Int) fun x3158 =>
 Let (x3157 != x3158) fun x3159 =>
 if x3159 = true then some false
 else
 Let (↑s10.length : Int) fun x3160 =>
 LOOP
 (fun (rec3161 : Int → Option Bool) (s3162 : Int) =>
 Let (decide (s3162 < x3160)) fun x3163 =>
 if x3163 = true then
 Chk ((0:Int) ≤ s3162 ∧ s3162 < (↑s10.length : Int))
 (Let (ix s10 s3162) fun x3164 =>
 Chk ((0:Int) ≤ s3162 ∧ s3162 < (↑s21.length : Int))
 (Let (ix s21 s3162) fun x3165 =>
 Let
 (!(decide (x3164.BodyA = x3165.BodyA) &&
 (decide (x3164.FixtureA = x3165.FixtureA) &&
 (decide (x3164.BodyB = x3165.BodyB) && decide (x3164.FixtureB = x3165.FixtureB)))))
 fun x3166 =>
 if x3166 = true then some false else Let (IntKind.i64.wrap (s3162 + (1:Int))) fun x3167 => rec3161 x3167))
 else some true)
 fuel (0:Int)
def world_Equal (a0 : World_) (b1 : World_) : Option Bool :=
 Let
 (decide (a0.Settings.TimeStep = b1.Settings.TimeStep) &&
 (decide (a0.Settings.Gravity.X = b1.Settings.Gravity.X) && decide (a0.Settings.Gravity.Y = b1.Settings.Gravity.Y) &&
 (decide (a0.Settings.Iterations = b1.Settings.Iterations) && decide (a0.Settings.SleepSteps = b1.Settings.SleepSteps))))
 fun x3168 =>
 Let (a0.NextID == b1.NextID) fun x3169 =>
 Let (bif x3168 then x3169 else false) fun x3170 =>
 Let (a0.Frame == b1.Frame) fun x3171 =>
 Let (bif x3170 then x3171 else false) fun x3172 =>
 Rx.Bind
 (if (x3172 == true) = true then
 slices_EqualFunc a0.Bodies b1.Bodies fun (a : Tup tb [Ix.tBody, Ix.tBody]) => body_Equal a.fst a.snd
 else some default)
 fun r3173 =>
 Let (bif x3172 then r3173 else false) fun x3174 =>
 Rx.Bind (if (x3174 == true) = true then slices_Equal a0.Joints b1.Joints else some default) fun r3175 =>
 Let (bif x3174 then r3175 else false) fun x3176 =>
 Rx.Bind
 (if (x3176 == true) = true then
 slices_EqualFunc_61 a0.Contacts b1.Contacts fun (a : Tup tb [Ix.tContact, Ix.tContact]) => world_Equal_1 a.fst a.snd
 else some default)
 fun r3177 =>
 Let (bif x3176 then r3177 else false) fun x3178 =>
 Rx.Bind (if (x3178 == true) = true then slices_Equal_62 a0.Overlaps b1.Overlaps else some default) fun r3179 =>
 Let (bif x3178 then r3179 else false) fun x3180 => some x3180
def caromlaw43_InputSequence (w0 : World_) (l1 : (List Input)) (cut2 : UInt8) : Option Bool :=
 Rx.Bind (caromref25_Few w0) fun r3181 =>
 Let (!r3181) fun x3182 =>
 Rx.Bind (if (x3182 == false) = true then caromlaw43_few l1 else some default) fun r3183 =>
 Let (!r3183) fun x3184 =>
 Let (bif x3182 then true else x3184) fun x3185 =>
 Rx.Bind (if (x3185 == false) = true then world_Validate w0 else some default) fun r3186 =>
 Let (r3186 != (0:Int)) fun x3187 =>
 Let (bif x3185 then true else x3187) fun x3188 =>
 if x3188 = true then Rx.Bind caromlaw43_example fun r3189 => some r3189
 else
 Let (↑cut2.toNat : Int) fun x3190 =>
 Let (↑l1.length : Int) fun x3191 =>
 Let (IntKind.i64.wrap (x3191 + (1:Int))) fun x3192 =>
 Chk (x3192 ≠ (0:Int))
 (Let (x3190.tmod x3192) fun x3193 =>
 Rx.Bind (input_ApplyAll w0 l1) fun r3194 =>
 Chk ((0:Int) ≤ x3193 ∧ x3193 ≤ (↑l1.length : Int))
 (Let (List.take x3193.toNat l1) fun x3195 =>
 Rx.Bind (input_ApplyAll w0 x3195) fun r3196 =>
 Chk ((0:Int) ≤ x3193 ∧ x3193 ≤ (↑l1.length : Int))
 (Let (List.drop x3193.toNat l1) fun x3197 =>
 Rx.Bind (input_ApplyAll r3196.fst x3197) fun r3198 =>
 Rx.Bind (world_Equal r3194.fst r3198.fst) fun r3199 =>
 Let (!r3199) fun x3200 =>
 Let (↑(List.length r3194.snd) : Int) fun x3201 =>
 Let (↑l1.length : Int) fun x3202 =>
 Let (x3201 != x3202) fun x3203 =>
 Let (bif x3200 then true else x3203) fun x3204 =>
 Let (↑(List.length r3196.snd) : Int) fun x3205 =>
 Let (↑(List.length r3198.snd) : Int) fun x3206 =>
 Let (IntKind.i64.wrap (x3205 + x3206)) fun x3207 =>
 Let (↑(List.length r3194.snd) : Int) fun x3208 =>
 Let (x3207 != x3208) fun x3209 =>
 Let (bif x3204 then true else x3209) fun x3210 =>
 if x3210 = true then some false
 else
 LOOP
 (fun (rec3211 : Int → Option Bool) (s3212 : Int) =>
 Let (↑(List.length r3196.snd) : Int) fun x3213 =>
 Let (decide (s3212 < x3213)) fun x3214 =>
 if x3214 = true then
 Chk ((0:Int) ≤ s3212 ∧ s3212 < (↑(List.length r3196.snd) : Int))
 (Let (ix r3196.snd s3212) fun x3215 =>
 Chk ((0:Int) ≤ s3212 ∧ s3212 < (↑(List.length r3194.snd) : Int))
 (Let (ix r3194.snd s3212) fun x3216 =>
 Let (x3215 != x3216) fun x3217 =>
 if x3217 = true then some false else Let (IntKind.i64.wrap (s3212 + (1:Int))) fun x3218 => rec3211 x3218))
 else
 LOOP
 (fun (rec3219 : Int → Option Bool) (s3220 : Int) =>
 Let (↑(List.length r3198.snd) : Int) fun x3221 =>
 Let (decide (s3220 < x3221)) fun x3222 =>
 if x3222 = true then
 Chk ((0:Int) ≤ s3220 ∧ s3220 < (↑(List.length r3198.snd) : Int))
 (Let (ix r3198.snd s3220) fun x3223 =>
 Let (IntKind.i64.wrap (x3193 + s3220)) fun x3224 =>
 Chk ((0:Int) ≤ x3224 ∧ x3224 < (↑(List.length r3194.snd) : Int))
 (Let (ix r3194.snd x3224) fun x3225 =>
 Let (x3223 != x3225) fun x3226 =>
 if x3226 = true then some false else Let (IntKind.i64.wrap (s3220 + (1:Int))) fun x3227 => rec3219 x3227))
 else Rx.Bind caromlaw43_example fun r3228 => some r3228)
 fuel (0:Int))
 fuel (0:Int))))
end
end GoForm
