/- The functions' plain forms. Printed by go3.py. No conditions. -/
import Derived.Test.YtblkmlpjhpgkjaaF23T
set_option linter.all false
set_option maxRecDepth 100000
open Go Go.Rx Go.Proofs Go.RowKit
namespace GoForm

noncomputable def caromref23_Small (b0 : Body) : Option Bool :=
  LOOP
  (fun (rec1 : Int → Option Bool) (s2 : Int) =>
  Let (↑b0.Fixtures.length : Int) fun (x3 : Int) =>
  Let (decide (s2 < x3)) fun (x4 : Bool) =>
  Let (decide (s2 < (8 : Int))) fun (x5 : Bool) =>
  Let (bif x4 then x5 else false) fun (x6 : Bool) =>
  if x6 = true then
  Chk ((0 : Int) ≤ s2 ∧ s2 < (↑b0.Fixtures.length : Int))
  (Let (ix b0.Fixtures s2) fun (x7 : Fixture) =>
  Let (↑x7.Shape.Vertices.length : Int) fun (x8 : Int) =>
  Let (decide (x8 > (20 : Int))) fun (x9 : Bool) =>
  if x9 = true then some false else Let (IntKind.i64.wrap (s2 + (1 : Int))) fun (x10 : Int) => rec1 x10)
  else Let (↑b0.Fixtures.length : Int) fun (x11 : Int) => Let (decide (x11 ≤ (8 : Int))) fun (x12 : Bool) => some x12)
  fuel (0 : Int)

noncomputable def caromlaw23_disk (x0 : Int) : Option Body :=
  some
  { ID := (1 : Int), Kind := (3 : Int), Transform := { Position := { X := x0, Y := (0 : Int) : Vec }, Angle := (0 : Int) : Transform }, Velocity := { X := (0 : Int), Y := (0 : Int) : Vec }, AngularVelocity := (0 : Int), Force := { X := (0 : Int), Y := (0 : Int) : Vec }, Torque := (0 : Int), LinearDamping := (0 : Int), AngularDamping := (0 : Int), GravityScale := (65536 : Int), Bullet := false, FixedRotation := false, NoSleep := false, Asleep := false, IdleSteps := (0 : Int), Fixtures := [{ Shape := { Kind := (1 : Int), Radius := (65536 : Int), Vertices := [{ X := (0 : Int), Y := (0 : Int) : Vec }] : Shape }, Density := (65536 : Int), Friction := (0 : Int), Restitution := (0 : Int), Sensor := false, Category := (1 : Int), Mask := (1 : Int), Group := (0 : Int) : Fixture }] : Body }

noncomputable def shape_validCount (s0 : Shape) : Option Bool :=
  Let (↑s0.Vertices.length : Int) fun (x13 : Int) =>
  Let (s0.Kind == (1 : Int)) fun (x14 : Bool) =>
  if x14 = true then Let (x13 == (1 : Int)) fun (x15 : Bool) => some x15
  else
  Let (s0.Kind == (2 : Int)) fun (x16 : Bool) =>
  if x16 = true then Let (x13 == (2 : Int)) fun (x17 : Bool) => some x17
  else
  Let (decide (x13 ≥ (3 : Int))) fun (x18 : Bool) =>
  Let (decide (x13 ≤ (8 : Int))) fun (x19 : Bool) => Let (bif x18 then x19 else false) fun (x20 : Bool) => some x20

noncomputable def slices_IndexFunc (s0 : (List Vec)) (f1 : (Vec → Option Bool)) : Option Int :=
  Let (↑s0.length : Int) fun (x21 : Int) =>
  LOOP
  (fun (rec22 : Int → Option Int) (s23 : Int) =>
  Let (decide (s23 < x21)) fun (x24 : Bool) =>
  if x24 = true then
  Chk ((0 : Int) ≤ s23 ∧ s23 < (↑s0.length : Int))
  (Let (ix s0 s23) fun (x25 : Vec) =>
  Rx.Bind (f1 x25) fun (r26 : Bool) =>
  if r26 = true then some s23 else Let (IntKind.i64.wrap (s23 + (1 : Int))) fun (x27 : Int) => rec22 x27)
  else some (-1 : Int))
  fuel (0 : Int)

noncomputable def slices_ContainsFunc (s0 : (List Vec)) (f1 : (Vec → Option Bool)) : Option Bool :=
  Rx.Bind (slices_IndexFunc s0 f1) fun (r28 : Int) => Let (decide (r28 ≥ (0 : Int))) fun (x29 : Bool) => some x29

noncomputable def shape_outOfRange (n0 : Int) : Option Bool :=
  Let (decide (n0 < (-1048576 : Int))) fun (x30 : Bool) =>
  Let (decide (n0 > (1048576 : Int))) fun (x31 : Bool) => Let (bif x30 then true else x31) fun (x32 : Bool) => some x32

noncomputable def shape_Validate_1 (v0 : Vec) : Option Bool :=
  Rx.Bind (shape_outOfRange v0.X) fun (r33 : Bool) =>
  Rx.Bind (if (r33 == false) = true then shape_outOfRange v0.Y else some default) fun (r34 : Bool) =>
  Let (bif r33 then true else r34) fun (x35 : Bool) => some x35

noncomputable def fixed_Saturate (x0 : Int) : Option Int :=
  Let (max x0 (-536870911 : Int)) fun (x36 : Int) => Let (min x36 (536870911 : Int)) fun (x37 : Int) => some x37

noncomputable def fixed_Sub (a0 : Int) (b1 : Int) : Option Int :=
  Rx.Bind (fixed_Saturate a0) fun (r38 : Int) =>
  Rx.Bind (fixed_Saturate b1) fun (r39 : Int) =>
  Let (IntKind.i64.wrap (r38 - r39)) fun (x40 : Int) => Rx.Bind (fixed_Saturate x40) fun (r41 : Int) => some r41

noncomputable def vec2_Sub (a0 : Vec) (b1 : Vec) : Option Vec :=
  Rx.Bind (fixed_Sub a0.X b1.X) fun (r42 : Int) =>
  Rx.Bind (fixed_Sub a0.Y b1.Y) fun (r43 : Int) => some { X := r42, Y := r43 : Vec }

noncomputable def vec2_saturate (v0 : Vec) : Option Vec :=
  Rx.Bind (fixed_Saturate v0.X) fun (r44 : Int) =>
  Rx.Bind (fixed_Saturate v0.Y) fun (r45 : Int) => some { X := r44, Y := r45 : Vec }

noncomputable def vec2_DistanceSquared (a0 : Vec) (b1 : Vec) : Option Int :=
  Rx.Bind (vec2_saturate a0) fun (r46 : Vec) =>
  Rx.Bind (vec2_saturate b1) fun (r47 : Vec) =>
  Let (IntKind.i64.wrap (r47.X - r46.X)) fun (x48 : Int) =>
  Let (IntKind.i64.wrap (r47.Y - r46.Y)) fun (x49 : Int) =>
  Let (IntKind.i64.wrap (x48 * x48)) fun (x50 : Int) =>
  Let (IntKind.i64.wrap (x49 * x49)) fun (x51 : Int) => Let (IntKind.i64.wrap (x50 + x51)) fun (x52 : Int) => some x52

noncomputable def fixed_Isqrt (n0 : Int) : Option Int :=
  Let (decide (n0 < (0 : Int))) fun (x53 : Bool) =>
  Let (decide (n0 > (4611686018427387904 : Int))) fun (x54 : Bool) =>
  Let (bif x53 then true else x54) fun (x55 : Bool) =>
  if x55 = true then some (0 : Int)
  else
  LOOP
  (fun (rec56 : Int × Int → Option Int) (s57 : Int × Int) =>
  Let (decide (s57.snd > (0 : Int))) fun (x58 : Bool) =>
  if x58 = true then
  Join (fun (v59 : Int) => Let (bShr IntKind.i64 s57.snd (1 : Int)) fun (x60 : Int) => rec56 (v59, x60))
  fun (j61 : Int → Option Int) =>
  Let (bOr IntKind.i64 s57.fst s57.snd) fun (x62 : Int) =>
  Let (IntKind.u64.wrap x62) fun (x63 : Int) =>
  Let (IntKind.u64.wrap x62) fun (x64 : Int) =>
  Let (IntKind.u64.wrap (x63 * x64)) fun (x65 : Int) =>
  Let (IntKind.u64.wrap n0) fun (x66 : Int) =>
  Let (decide (x65 ≤ x66)) fun (x67 : Bool) => if x67 = true then j61 x62 else j61 s57.fst
  else some s57.fst)
  fuel ((0 : Int), (2147483648 : Int))

noncomputable def vec2_Length (v0 : Vec) : Option Int :=
  Rx.Bind (vec2_DistanceSquared { X := (0 : Int), Y := (0 : Int) : Vec } v0) fun (r68 : Int) =>
  Rx.Bind (fixed_Isqrt r68) fun (r69 : Int) => some r69

noncomputable def polygon_inReach (v0 : Vec) : Option Bool :=
  Let (decide (v0.X ≥ (-1048576 : Int))) fun (x70 : Bool) =>
  Let (decide (v0.X ≤ (1048576 : Int))) fun (x71 : Bool) =>
  Let (bif x70 then x71 else false) fun (x72 : Bool) =>
  Let (decide (v0.Y ≥ (-1048576 : Int))) fun (x73 : Bool) =>
  Let (bif x72 then x73 else false) fun (x74 : Bool) =>
  Let (decide (v0.Y ≤ (1048576 : Int))) fun (x75 : Bool) => Let (bif x74 then x75 else false) fun (x76 : Bool) => some x76

noncomputable def polygon_allInReach (points0 : (List Vec)) : Option Bool :=
  Let (↑points0.length : Int) fun (x77 : Int) =>
  LOOP
  (fun (rec78 : Int → Option Bool) (s79 : Int) =>
  Let (decide (s79 < x77)) fun (x80 : Bool) =>
  if x80 = true then
  Chk ((0 : Int) ≤ s79 ∧ s79 < (↑points0.length : Int))
  (Let (ix points0 s79) fun (x81 : Vec) =>
  Rx.Bind (polygon_inReach x81) fun (r82 : Bool) =>
  Let (!r82) fun (x83 : Bool) =>
  if x83 = true then some false else Let (IntKind.i64.wrap (s79 + (1 : Int))) fun (x84 : Int) => rec78 x84)
  else some true)
  fuel (0 : Int)

noncomputable def vec2_Orientation (a0 : Vec) (b1 : Vec) (c2 : Vec) : Option Int :=
  Rx.Bind (vec2_saturate a0) fun (r85 : Vec) =>
  Rx.Bind (vec2_saturate b1) fun (r86 : Vec) =>
  Rx.Bind (vec2_saturate c2) fun (r87 : Vec) =>
  Let (IntKind.i64.wrap (r86.X - r85.X)) fun (x88 : Int) =>
  Let (IntKind.i64.wrap (r87.Y - r85.Y)) fun (x89 : Int) =>
  Let (IntKind.i64.wrap (x88 * x89)) fun (x90 : Int) =>
  Let (IntKind.i64.wrap (r86.Y - r85.Y)) fun (x91 : Int) =>
  Let (IntKind.i64.wrap (r87.X - r85.X)) fun (x92 : Int) =>
  Let (IntKind.i64.wrap (x91 * x92)) fun (x93 : Int) =>
  Let (IntKind.i64.wrap (x90 - x93)) fun (x94 : Int) =>
  Let (max (-1 : Int) x94) fun (x95 : Int) => Let (min (1 : Int) x95) fun (x96 : Int) => some x96

noncomputable def polygon_IsConvex (vertices0 : (List Vec)) : Option Bool :=
  Let (↑vertices0.length : Int) fun (x97 : Int) =>
  Let (decide (x97 < (3 : Int))) fun (x98 : Bool) =>
  Let (decide (x97 > (8 : Int))) fun (x99 : Bool) =>
  Let (bif x98 then true else x99) fun (x100 : Bool) =>
  Rx.Bind (if (x100 == false) = true then polygon_allInReach vertices0 else some default) fun (r101 : Bool) =>
  Let (!r101) fun (x102 : Bool) =>
  Let (bif x100 then true else x102) fun (x103 : Bool) =>
  if x103 = true then some false
  else
  Let (↑vertices0.length : Int) fun (x104 : Int) =>
  LOOP
  (fun (rec105 : Int → Option Bool) (s106 : Int) =>
  Let (decide (s106 < x104)) fun (x107 : Bool) =>
  if x107 = true then
  Chk ((0 : Int) ≤ s106 ∧ s106 < (↑vertices0.length : Int))
  (Let (ix vertices0 s106) fun (x108 : Vec) =>
  Let (IntKind.i64.wrap (s106 + (1 : Int))) fun (x109 : Int) =>
  Chk (x97 ≠ (0 : Int))
  (Let (x109.tmod x97) fun (x110 : Int) =>
  Let (↑vertices0.length : Int) fun (x111 : Int) =>
  LOOP
  (fun (rec112 : Int → Option Bool) (s113 : Int) =>
  Let (decide (s113 < x111)) fun (x114 : Bool) =>
  if x114 = true then
  Chk ((0 : Int) ≤ s113 ∧ s113 < (↑vertices0.length : Int))
  (Let (ix vertices0 s113) fun (x115 : Vec) =>
  Let (s113 != s106) fun (x116 : Bool) =>
  Let (s113 != x110) fun (x117 : Bool) =>
  Let (bif x116 then x117 else false) fun (x118 : Bool) =>
  Chk ((x118 == true) = true → (0 : Int) ≤ x110 ∧ x110 < (↑vertices0.length : Int))
  (Let (ix vertices0 x110) fun (x119 : Vec) =>
  Rx.Bind (if (x118 == true) = true then vec2_Orientation x108 x119 x115 else some default) fun (r120 : Int) =>
  Let (r120 != (1 : Int)) fun (x121 : Bool) =>
  Let (bif x118 then x121 else false) fun (x122 : Bool) =>
  if x122 = true then some false else Let (IntKind.i64.wrap (s113 + (1 : Int))) fun (x123 : Int) => rec112 x123))
  else Let (IntKind.i64.wrap (s106 + (1 : Int))) fun (x124 : Int) => rec105 x124)
  fuel (0 : Int)))
  else some true)
  fuel (0 : Int)

noncomputable def polygon_ShortestEdge (vertices0 : (List Vec)) : Option Int :=
  Rx.Bind (polygon_IsConvex vertices0) fun (r125 : Bool) =>
  Let (!r125) fun (x126 : Bool) =>
  if x126 = true then some (0 : Int)
  else
  Let (↑vertices0.length : Int) fun (x127 : Int) =>
  LOOP
  (fun (rec128 : Int × Int → Option Int) (s129 : Int × Int) =>
  Let (decide (s129.snd < x127)) fun (x130 : Bool) =>
  if x130 = true then
  Chk ((0 : Int) ≤ s129.snd ∧ s129.snd < (↑vertices0.length : Int))
  (Let (ix vertices0 s129.snd) fun (x131 : Vec) =>
  Let (IntKind.i64.wrap (s129.snd + (1 : Int))) fun (x132 : Int) =>
  Let (↑vertices0.length : Int) fun (x133 : Int) =>
  Chk (x133 ≠ (0 : Int))
  (Let (x132.tmod x133) fun (x134 : Int) =>
  Chk ((0 : Int) ≤ x134 ∧ x134 < (↑vertices0.length : Int))
  (Let (ix vertices0 x134) fun (x135 : Vec) =>
  Rx.Bind (vec2_Sub x135 x131) fun (r136 : Vec) =>
  Rx.Bind (vec2_Length r136) fun (r137 : Int) =>
  Let (min s129.fst r137) fun (x138 : Int) =>
  Let (IntKind.i64.wrap (s129.snd + (1 : Int))) fun (x139 : Int) => rec128 (x138, x139))))
  else some s129.fst)
  fuel ((536870911 : Int), (0 : Int))

noncomputable def fixed_RoundDiv (n0 : Int) (d1 : Int) : Option Int :=
  Let (decide (d1 < (1 : Int))) fun (x140 : Bool) =>
  Let (decide (d1 > (4611686018427387904 : Int))) fun (x141 : Bool) =>
  Let (bif x140 then true else x141) fun (x142 : Bool) =>
  Let (decide (n0 < (-4611686018427387904 : Int))) fun (x143 : Bool) =>
  Let (bif x142 then true else x143) fun (x144 : Bool) =>
  Let (decide (n0 > (4611686018427387904 : Int))) fun (x145 : Bool) =>
  Let (bif x144 then true else x145) fun (x146 : Bool) =>
  if x146 = true then some (0 : Int)
  else
  Chk (d1 ≠ (0 : Int))
  (Let (IntKind.i64.wrap (n0.tdiv d1)) fun (x147 : Int) =>
  Chk (d1 ≠ (0 : Int))
  (Let (n0.tmod d1) fun (x148 : Int) =>
  Join (fun (v149 : Int) => some v149) fun (j150 : Int → Option Int) =>
  Let (IntKind.i64.wrap (d1 - x148)) fun (x151 : Int) =>
  Let (decide (x148 ≥ x151)) fun (x152 : Bool) =>
  if x152 = true then Let (IntKind.i64.wrap (x147 + (1 : Int))) fun (x153 : Int) => j150 x153
  else
  Let (IntKind.i64.wrap ((0 : Int) - x148)) fun (x154 : Int) =>
  Let (IntKind.i64.wrap (d1 + x148)) fun (x155 : Int) =>
  Let (decide (x154 ≥ x155)) fun (x156 : Bool) =>
  if x156 = true then Let (IntKind.i64.wrap (x147 - (1 : Int))) fun (x157 : Int) => j150 x157 else j150 x147))

noncomputable def polygon_fan (vertices0 : (List Vec)) : Option ((List polygon_triangle) × Int) :=
  Chk ((0 : Int) ≤ (0 : Int) ∧ (0 : Int) < (↑vertices0.length : Int))
  (Let (ix vertices0 (0 : Int)) fun (x158 : Vec) =>
  LOOP
  (fun (rec159 : List polygon_triangle × Int × Int → Option (List polygon_triangle × Int))
  (s160 : List polygon_triangle × Int × Int) =>
  Let (IntKind.i64.wrap (s160.snd.snd + (1 : Int))) fun (x161 : Int) =>
  Let (↑vertices0.length : Int) fun (x162 : Int) =>
  Let (decide (x161 < x162)) fun (x163 : Bool) =>
  if x163 = true then
  Chk ((0 : Int) ≤ s160.snd.snd ∧ s160.snd.snd < (↑vertices0.length : Int))
  (Let (ix vertices0 s160.snd.snd) fun (x164 : Vec) =>
  Let (IntKind.i64.wrap (x164.X - x158.X)) fun (x165 : Int) =>
  Chk ((0 : Int) ≤ s160.snd.snd ∧ s160.snd.snd < (↑vertices0.length : Int))
  (Let (ix vertices0 s160.snd.snd) fun (x166 : Vec) =>
  Let (IntKind.i64.wrap (x166.Y - x158.Y)) fun (x167 : Int) =>
  Let (IntKind.i64.wrap (s160.snd.snd + (1 : Int))) fun (x168 : Int) =>
  Chk ((0 : Int) ≤ x168 ∧ x168 < (↑vertices0.length : Int))
  (Let (ix vertices0 x168) fun (x169 : Vec) =>
  Let (IntKind.i64.wrap (x169.X - x158.X)) fun (x170 : Int) =>
  Let (IntKind.i64.wrap (s160.snd.snd + (1 : Int))) fun (x171 : Int) =>
  Chk ((0 : Int) ≤ x171 ∧ x171 < (↑vertices0.length : Int))
  (Let (ix vertices0 x171) fun (x172 : Vec) =>
  Let (IntKind.i64.wrap (x172.Y - x158.Y)) fun (x173 : Int) =>
  Let (IntKind.i64.wrap (x165 * x173)) fun (x174 : Int) =>
  Let (IntKind.i64.wrap (x167 * x170)) fun (x175 : Int) =>
  Let (IntKind.i64.wrap (x174 - x175)) fun (x176 : Int) =>
  Rx.Bind (fixed_RoundDiv x176 (65536 : Int)) fun (r177 : Int) =>
  Chk
  ((List.length s160.fst +
  [{ e := { X := x165, Y := x167 : Vec }, f := { X := x170, Y := x173 : Vec }, cross := r177 : polygon_triangle }].length) *
  (40 : Nat) ≤
  (140737488355328 : Nat))
  (Let
  (s160.fst ++
  [{ e := { X := x165, Y := x167 : Vec }, f := { X := x170, Y := x173 : Vec }, cross := r177 : polygon_triangle }])
  fun (x178 : List polygon_triangle) =>
  Let (IntKind.i64.wrap (s160.snd.fst + r177)) fun (x179 : Int) =>
  Let (IntKind.i64.wrap (s160.snd.snd + (1 : Int))) fun (x180 : Int) => rec159 (x178, x179, x180))))))
  else some (s160.fst, s160.snd.fst))
  fuel ([], (0 : Int), (1 : Int)))

noncomputable def polygon_Area (vertices0 : (List Vec)) : Option Int :=
  Rx.Bind (polygon_IsConvex vertices0) fun (r181 : Bool) =>
  Let (!r181) fun (x182 : Bool) =>
  if x182 = true then some (0 : Int)
  else
  Rx.Bind (polygon_fan vertices0) fun (r183 : List polygon_triangle × Int) =>
  Rx.Bind (fixed_RoundDiv r183.snd (2 : Int)) fun (r184 : Int) => some r184

noncomputable def shape_Validate (s0 : Shape) : Option Int :=
  Let (decide (s0.Kind < (1 : Int))) fun (x185 : Bool) =>
  Let (decide (s0.Kind > (3 : Int))) fun (x186 : Bool) =>
  Let (bif x185 then true else x186) fun (x187 : Bool) =>
  if x187 = true then some (10 : Int)
  else
  Rx.Bind (shape_validCount s0) fun (r188 : Bool) =>
  Let (!r188) fun (x189 : Bool) =>
  if x189 = true then some (11 : Int)
  else
  Rx.Bind (slices_ContainsFunc s0.Vertices fun (a : Tup tb [Ix.tVec]) => shape_Validate_1 a) fun (r190 : Bool) =>
  if r190 = true then some (6 : Int)
  else
  Join
  (fun (v191 : Bool) =>
  if v191 = true then some (6 : Int)
  else
  Let (s0.Kind == (2 : Int)) fun (x192 : Bool) =>
  Chk ((x192 == true) = true → (0 : Int) ≤ (1 : Int) ∧ (1 : Int) < (↑s0.Vertices.length : Int))
  (Let (ix s0.Vertices (1 : Int)) fun (x193 : Vec) =>
  Chk ((x192 == true) = true → (0 : Int) ≤ (0 : Int) ∧ (0 : Int) < (↑s0.Vertices.length : Int))
  (Let (ix s0.Vertices (0 : Int)) fun (x194 : Vec) =>
  Rx.Bind (if (x192 == true) = true then vec2_Sub x193 x194 else some { X := default, Y := default : Vec })
  fun (r195 : Vec) =>
  Rx.Bind (if (x192 == true) = true then vec2_Length r195 else some default) fun (r196 : Int) =>
  Let (decide (r196 < (4096 : Int))) fun (x197 : Bool) =>
  Let (bif x192 then x197 else false) fun (x198 : Bool) =>
  if x198 = true then some (12 : Int)
  else
  Let (s0.Kind == (3 : Int)) fun (x199 : Bool) =>
  Rx.Bind (if (x199 == true) = true then polygon_IsConvex s0.Vertices else some default) fun (r200 : Bool) =>
  Let (!r200) fun (x201 : Bool) =>
  Rx.Bind (if (x199 == true && x201 == false) = true then polygon_ShortestEdge s0.Vertices else some default)
  fun (r202 : Int) =>
  Let (decide (r202 < (4096 : Int))) fun (x203 : Bool) =>
  Let (bif x201 then true else x203) fun (x204 : Bool) =>
  Rx.Bind (if (x199 == true && x204 == false) = true then polygon_Area s0.Vertices else some default) fun (r205 : Int) =>
  Let (decide (r205 < (256 : Int))) fun (x206 : Bool) =>
  Let (bif x204 then true else x206) fun (x207 : Bool) =>
  Let (bif x199 then x207 else false) fun (x208 : Bool) => if x208 = true then some (12 : Int) else some (0 : Int))))
  fun (j209 : Bool → Option Int) =>
  Let (s0.Kind == (3 : Int)) fun (x210 : Bool) =>
  Let (s0.Radius != (0 : Int)) fun (x211 : Bool) =>
  Let (bif x210 then x211 else false) fun (x212 : Bool) =>
  if x212 = true then j209 x212
  else
  Let (s0.Kind != (3 : Int)) fun (x213 : Bool) =>
  Let (decide (s0.Radius < (2048 : Int))) fun (x214 : Bool) =>
  Let (decide (s0.Radius > (524288 : Int))) fun (x215 : Bool) =>
  Let (bif x214 then true else x215) fun (x216 : Bool) =>
  Let (bif x213 then x216 else false) fun (x217 : Bool) => j209 x217

noncomputable def fixed_Mul (a0 : Int) (b1 : Int) : Option Int :=
  Rx.Bind (fixed_Saturate a0) fun (r218 : Int) =>
  Rx.Bind (fixed_Saturate b1) fun (r219 : Int) =>
  Let (IntKind.i64.wrap (r218 * r219)) fun (x220 : Int) =>
  Rx.Bind (fixed_RoundDiv x220 (65536 : Int)) fun (r221 : Int) =>
  Rx.Bind (fixed_Saturate r221) fun (r222 : Int) => some r222

noncomputable def massdata_ofCircle (s0 : Shape) (density1 : Int) : Option MassData :=
  Rx.Bind (fixed_Mul s0.Radius s0.Radius) fun (r223 : Int) =>
  Rx.Bind (fixed_Mul (205888 : Int) r223) fun (r224 : Int) =>
  Rx.Bind (fixed_Mul r224 density1) fun (r225 : Int) =>
  Chk ((0 : Int) ≤ (0 : Int) ∧ (0 : Int) < (↑s0.Vertices.length : Int))
  (Let (ix s0.Vertices (0 : Int)) fun (x226 : Vec) =>
  Rx.Bind (fixed_RoundDiv r223 (2 : Int)) fun (r227 : Int) =>
  Rx.Bind (fixed_Mul r225 r227) fun (r228 : Int) => some { Mass := r225, Center := x226, Inertia := r228 : MassData })

noncomputable def fixed_Add (a0 : Int) (b1 : Int) : Option Int :=
  Rx.Bind (fixed_Saturate a0) fun (r229 : Int) =>
  Rx.Bind (fixed_Saturate b1) fun (r230 : Int) =>
  Let (IntKind.i64.wrap (r229 + r230)) fun (x231 : Int) => Rx.Bind (fixed_Saturate x231) fun (r232 : Int) => some r232

noncomputable def fixed_Lerp (a0 : Int) (b1 : Int) (t2 : Int) : Option Int :=
  Rx.Bind (fixed_Sub b1 a0) fun (r233 : Int) =>
  Rx.Bind (fixed_Mul r233 t2) fun (r234 : Int) => Rx.Bind (fixed_Add a0 r234) fun (r235 : Int) => some r235

noncomputable def vec2_Lerp (a0 : Vec) (b1 : Vec) (t2 : Int) : Option Vec :=
  Rx.Bind (fixed_Lerp a0.X b1.X t2) fun (r236 : Int) =>
  Rx.Bind (fixed_Lerp a0.Y b1.Y t2) fun (r237 : Int) => some { X := r236, Y := r237 : Vec }

noncomputable def massdata_ofCapsule (s0 : Shape) (density1 : Int) : Option MassData :=
  Rx.Bind (fixed_Mul s0.Radius s0.Radius) fun (r238 : Int) =>
  Chk ((0 : Int) ≤ (1 : Int) ∧ (1 : Int) < (↑s0.Vertices.length : Int))
  (Let (ix s0.Vertices (1 : Int)) fun (x239 : Vec) =>
  Chk ((0 : Int) ≤ (0 : Int) ∧ (0 : Int) < (↑s0.Vertices.length : Int))
  (Let (ix s0.Vertices (0 : Int)) fun (x240 : Vec) =>
  Rx.Bind (vec2_Sub x239 x240) fun (r241 : Vec) =>
  Rx.Bind (vec2_Length r241) fun (r242 : Int) =>
  Rx.Bind (fixed_Mul (205888 : Int) r238) fun (r243 : Int) =>
  Rx.Bind (fixed_Add s0.Radius s0.Radius) fun (r244 : Int) =>
  Rx.Bind (fixed_Mul r244 r242) fun (r245 : Int) =>
  Rx.Bind (fixed_Add r243 r245) fun (r246 : Int) =>
  Rx.Bind (fixed_Mul r246 density1) fun (r247 : Int) =>
  Rx.Bind (fixed_RoundDiv r238 (2 : Int)) fun (r248 : Int) =>
  Rx.Bind (fixed_Mul r242 r242) fun (r249 : Int) =>
  Rx.Bind (fixed_RoundDiv r249 (12 : Int)) fun (r250 : Int) =>
  Rx.Bind (fixed_Add r248 r250) fun (r251 : Int) =>
  Chk ((0 : Int) ≤ (0 : Int) ∧ (0 : Int) < (↑s0.Vertices.length : Int))
  (Let (ix s0.Vertices (0 : Int)) fun (x252 : Vec) =>
  Chk ((0 : Int) ≤ (1 : Int) ∧ (1 : Int) < (↑s0.Vertices.length : Int))
  (Let (ix s0.Vertices (1 : Int)) fun (x253 : Vec) =>
  Rx.Bind (vec2_Lerp x252 x253 (32768 : Int)) fun (r254 : Vec) =>
  Rx.Bind (fixed_Mul r247 r251) fun (r255 : Int) => some { Mass := r247, Center := r254, Inertia := r255 : MassData }))))

noncomputable def polygon_Centroid (vertices0 : (List Vec)) : Option Vec :=
  Rx.Bind (polygon_IsConvex vertices0) fun (r256 : Bool) =>
  Let (!r256) fun (x257 : Bool) =>
  if x257 = true then some { X := (0 : Int), Y := (0 : Int) : Vec }
  else
  Rx.Bind (polygon_fan vertices0) fun (r258 : List polygon_triangle × Int) =>
  Let (r258.snd == (0 : Int)) fun (x259 : Bool) =>
  if x259 = true then
  Chk ((0 : Int) ≤ (0 : Int) ∧ (0 : Int) < (↑vertices0.length : Int))
  (Let (ix vertices0 (0 : Int)) fun (x260 : Vec) => some x260)
  else
  Let (↑(List.length r258.fst) : Int) fun (x261 : Int) =>
  LOOP
  (fun (rec262 : Int × Int × Int → Option Vec) (s263 : Int × Int × Int) =>
  Let (decide (s263.snd.snd < x261)) fun (x264 : Bool) =>
  if x264 = true then
  Chk ((0 : Int) ≤ s263.snd.snd ∧ s263.snd.snd < (↑(List.length r258.fst) : Int))
  (Let (ix r258.fst s263.snd.snd) fun (x265 : polygon_triangle) =>
  Let (IntKind.i64.wrap (x265.e.X + x265.f.X)) fun (x266 : Int) =>
  Let (IntKind.i64.wrap (x266 * x265.cross)) fun (x267 : Int) =>
  Let (IntKind.i64.wrap (s263.fst + x267)) fun (x268 : Int) =>
  Let (IntKind.i64.wrap (x265.e.Y + x265.f.Y)) fun (x269 : Int) =>
  Let (IntKind.i64.wrap (x269 * x265.cross)) fun (x270 : Int) =>
  Let (IntKind.i64.wrap (s263.snd.fst + x270)) fun (x271 : Int) =>
  Let (IntKind.i64.wrap (s263.snd.snd + (1 : Int))) fun (x272 : Int) => rec262 (x268, x271, x272))
  else
  Chk ((0 : Int) ≤ (0 : Int) ∧ (0 : Int) < (↑vertices0.length : Int))
  (Let (ix vertices0 (0 : Int)) fun (x273 : Vec) =>
  Let (IntKind.i64.wrap ((3 : Int) * r258.snd)) fun (x274 : Int) =>
  Rx.Bind (fixed_RoundDiv s263.fst x274) fun (r275 : Int) =>
  Let (IntKind.i64.wrap (x273.X + r275)) fun (x276 : Int) =>
  Chk ((0 : Int) ≤ (0 : Int) ∧ (0 : Int) < (↑vertices0.length : Int))
  (Let (ix vertices0 (0 : Int)) fun (x277 : Vec) =>
  Let (IntKind.i64.wrap ((3 : Int) * r258.snd)) fun (x278 : Int) =>
  Rx.Bind (fixed_RoundDiv s263.snd.fst x278) fun (r279 : Int) =>
  Let (IntKind.i64.wrap (x277.Y + r279)) fun (x280 : Int) => some { X := x276, Y := x280 : Vec })))
  fuel ((0 : Int), (0 : Int), (0 : Int))

noncomputable def vec2_product (n0 : Int) : Option Int :=
  Rx.Bind (fixed_RoundDiv n0 (65536 : Int)) fun (r281 : Int) =>
  Rx.Bind (fixed_Saturate r281) fun (r282 : Int) => some r282

noncomputable def vec2_Cross (a0 : Vec) (b1 : Vec) : Option Int :=
  Rx.Bind (vec2_saturate a0) fun (r283 : Vec) =>
  Rx.Bind (vec2_saturate b1) fun (r284 : Vec) =>
  Let (IntKind.i64.wrap (r283.X * r284.Y)) fun (x285 : Int) =>
  Let (IntKind.i64.wrap (r283.Y * r284.X)) fun (x286 : Int) =>
  Let (IntKind.i64.wrap (x285 - x286)) fun (x287 : Int) => Rx.Bind (vec2_product x287) fun (r288 : Int) => some r288

noncomputable def vec2_Dot (a0 : Vec) (b1 : Vec) : Option Int :=
  Rx.Bind (vec2_saturate a0) fun (r289 : Vec) =>
  Rx.Bind (vec2_saturate b1) fun (r290 : Vec) =>
  Let (IntKind.i64.wrap (r289.X * r290.X)) fun (x291 : Int) =>
  Let (IntKind.i64.wrap (r289.Y * r290.Y)) fun (x292 : Int) =>
  Let (IntKind.i64.wrap (x291 + x292)) fun (x293 : Int) => Rx.Bind (vec2_product x293) fun (r294 : Int) => some r294

noncomputable def massdata_ofPolygon (s0 : Shape) (density1 : Int) : Option MassData :=
  Rx.Bind (polygon_Area s0.Vertices) fun (r295 : Int) =>
  Rx.Bind (fixed_Mul r295 density1) fun (r296 : Int) =>
  Rx.Bind (polygon_Centroid s0.Vertices) fun (r297 : Vec) =>
  Let (↑s0.Vertices.length : Int) fun (x298 : Int) =>
  Let (IntKind.i64.wrap (x298 - (1 : Int))) fun (x299 : Int) =>
  Chk ((0 : Int) ≤ x299 ∧ x299 < (↑s0.Vertices.length : Int))
  (Let (ix s0.Vertices x299) fun (x300 : Vec) =>
  Rx.Bind (vec2_Sub x300 r297) fun (r301 : Vec) =>
  Let (↑s0.Vertices.length : Int) fun (x302 : Int) =>
  LOOP
  (fun (rec303 : Int × Int × Int × Vec → Option MassData) (s304 : Int × Int × Int × Vec) =>
  Let (decide (s304.snd.snd.fst < x302)) fun (x305 : Bool) =>
  if x305 = true then
  Chk ((0 : Int) ≤ s304.snd.snd.fst ∧ s304.snd.snd.fst < (↑s0.Vertices.length : Int))
  (Let (ix s0.Vertices s304.snd.snd.fst) fun (x306 : Vec) =>
  Rx.Bind (vec2_Sub x306 r297) fun (r307 : Vec) =>
  Rx.Bind (vec2_Cross s304.snd.snd.snd r307) fun (r308 : Int) =>
  Rx.Bind (vec2_Dot s304.snd.snd.snd s304.snd.snd.snd) fun (r309 : Int) =>
  Rx.Bind (vec2_Dot s304.snd.snd.snd r307) fun (r310 : Int) =>
  Let (IntKind.i64.wrap (r309 + r310)) fun (x311 : Int) =>
  Rx.Bind (vec2_Dot r307 r307) fun (r312 : Int) =>
  Let (IntKind.i64.wrap (x311 + r312)) fun (x313 : Int) =>
  Let (IntKind.i64.wrap (r308 * x313)) fun (x314 : Int) =>
  Let (IntKind.i64.wrap (s304.fst + x314)) fun (x315 : Int) =>
  Let (IntKind.i64.wrap (s304.snd.fst + r308)) fun (x316 : Int) =>
  Let (IntKind.i64.wrap (s304.snd.snd.fst + (1 : Int))) fun (x317 : Int) => rec303 (x315, x316, x317, r307))
  else
  Let (decide (s304.snd.fst < (1 : Int))) fun (x318 : Bool) =>
  if x318 = true then some { Mass := r296, Center := r297, Inertia := (0 : Int) : MassData }
  else
  Rx.Bind (fixed_RoundDiv s304.fst s304.snd.fst) fun (r319 : Int) =>
  Rx.Bind (fixed_RoundDiv r319 (6 : Int)) fun (r320 : Int) =>
  Rx.Bind (fixed_Mul r296 r320) fun (r321 : Int) => some { Mass := r296, Center := r297, Inertia := r321 : MassData })
  fuel ((0 : Int), (0 : Int), (0 : Int), r301))

noncomputable def massdata_OfShape (s0 : Shape) (density1 : Int) : Option MassData :=
  Rx.Bind (shape_Validate s0) fun (r322 : Int) =>
  Let (r322 != (0 : Int)) fun (x323 : Bool) =>
  Let (decide (density1 < (0 : Int))) fun (x324 : Bool) =>
  Let (bif x323 then true else x324) fun (x325 : Bool) =>
  Let (decide (density1 > (262144 : Int))) fun (x326 : Bool) =>
  Let (bif x325 then true else x326) fun (x327 : Bool) =>
  if x327 = true then
  some { Mass := (0 : Int), Center := { X := (0 : Int), Y := (0 : Int) : Vec }, Inertia := (0 : Int) : MassData }
  else
  Let (s0.Kind == (1 : Int)) fun (x328 : Bool) =>
  if x328 = true then Rx.Bind (massdata_ofCircle s0 density1) fun (r329 : MassData) => some r329
  else
  Let (s0.Kind == (2 : Int)) fun (x330 : Bool) =>
  if x330 = true then Rx.Bind (massdata_ofCapsule s0 density1) fun (r331 : MassData) => some r331
  else Rx.Bind (massdata_ofPolygon s0 density1) fun (r332 : MassData) => some r332

noncomputable def slices_IndexFunc_110 (s0 : (List MassData)) (f1 : (MassData → Option Bool)) : Option Int :=
  Let (↑s0.length : Int) fun (x333 : Int) =>
  LOOP
  (fun (rec334 : Int → Option Int) (s335 : Int) =>
  Let (decide (s335 < x333)) fun (x336 : Bool) =>
  if x336 = true then
  Chk ((0 : Int) ≤ s335 ∧ s335 < (↑s0.length : Int))
  (Let (ix s0 s335) fun (x337 : MassData) =>
  Rx.Bind (f1 x337) fun (r338 : Bool) =>
  if r338 = true then some s335 else Let (IntKind.i64.wrap (s335 + (1 : Int))) fun (x339 : Int) => rec334 x339)
  else some (-1 : Int))
  fuel (0 : Int)

noncomputable def slices_ContainsFunc_105 (s0 : (List MassData)) (f1 : (MassData → Option Bool)) : Option Bool :=
  Rx.Bind (slices_IndexFunc_110 s0 f1) fun (r340 : Int) => Let (decide (r340 ≥ (0 : Int))) fun (x341 : Bool) => some x341

noncomputable def massdata_Combine_1 (p0 : MassData) : Option Bool :=
  Let (decide (p0.Mass < (0 : Int))) fun (x342 : Bool) => some x342

noncomputable def massdata_Combine (parts0 : (List MassData)) : Option MassData :=
  Let (↑parts0.length : Int) fun (x343 : Int) =>
  Let (decide (x343 > (8 : Int))) fun (x344 : Bool) =>
  Rx.Bind
  (if (x344 == false) = true then slices_ContainsFunc_105 parts0 fun (a : Tup tb [Ix.tMassData]) => massdata_Combine_1 a
  else some default)
  fun (r345 : Bool) =>
  Let (bif x344 then true else r345) fun (x346 : Bool) =>
  if x346 = true then
  some { Mass := (0 : Int), Center := { X := (0 : Int), Y := (0 : Int) : Vec }, Inertia := (0 : Int) : MassData }
  else
  Let (↑parts0.length : Int) fun (x347 : Int) =>
  LOOP
  (fun (rec348 : Int × Int × Int × Int × MassData → Option MassData) (s349 : Int × Int × Int × Int × MassData) =>
  Let (decide (s349.snd.snd.snd.fst < x347)) fun (x350 : Bool) =>
  if x350 = true then
  Chk ((0 : Int) ≤ s349.snd.snd.snd.fst ∧ s349.snd.snd.snd.fst < (↑parts0.length : Int))
  (Let (ix parts0 s349.snd.snd.snd.fst) fun (x351 : MassData) =>
  Rx.Bind (fixed_Saturate x351.Mass) fun (r352 : Int) =>
  Rx.Bind (fixed_Add s349.snd.snd.snd.snd.Mass r352) fun (r353 : Int) =>
  Let (IntKind.i64.wrap (s349.fst + r352)) fun (x354 : Int) =>
  Rx.Bind (fixed_Saturate x351.Center.X) fun (r355 : Int) =>
  Let (IntKind.i64.wrap (r352 * r355)) fun (x356 : Int) =>
  Let (IntKind.i64.wrap (s349.snd.fst + x356)) fun (x357 : Int) =>
  Rx.Bind (fixed_Saturate x351.Center.Y) fun (r358 : Int) =>
  Let (IntKind.i64.wrap (r352 * r358)) fun (x359 : Int) =>
  Let (IntKind.i64.wrap (s349.snd.snd.fst + x359)) fun (x360 : Int) =>
  Let (IntKind.i64.wrap (s349.snd.snd.snd.fst + (1 : Int))) fun (x361 : Int) =>
  rec348
  (x354, x357, x360, x361,
  { Mass := r353, Center := s349.snd.snd.snd.snd.Center, Inertia := s349.snd.snd.snd.snd.Inertia : MassData }))
  else
  Join
  (fun (v362 : MassData) =>
  Let (↑parts0.length : Int) fun (x363 : Int) =>
  LOOP
  (fun (rec364 : Int × MassData → Option MassData) (s365 : Int × MassData) =>
  Let (decide (s365.fst < x363)) fun (x366 : Bool) =>
  if x366 = true then
  Chk ((0 : Int) ≤ s365.fst ∧ s365.fst < (↑parts0.length : Int))
  (Let (ix parts0 s365.fst) fun (x367 : MassData) =>
  Rx.Bind (vec2_Sub x367.Center s365.snd.Center) fun (r368 : Vec) =>
  Rx.Bind (fixed_Add s365.snd.Inertia x367.Inertia) fun (r369 : Int) =>
  Rx.Bind (vec2_Dot r368 r368) fun (r370 : Int) =>
  Rx.Bind (fixed_Mul x367.Mass r370) fun (r371 : Int) =>
  Rx.Bind (fixed_Add r369 r371) fun (r372 : Int) =>
  Let (IntKind.i64.wrap (s365.fst + (1 : Int))) fun (x373 : Int) =>
  rec364 (x373, { Mass := s365.snd.Mass, Center := s365.snd.Center, Inertia := r372 : MassData }))
  else some s365.snd)
  fuel ((0 : Int), v362))
  fun (j374 : MassData → Option MassData) =>
  Let (decide (s349.fst > (0 : Int))) fun (x375 : Bool) =>
  if x375 = true then
  Rx.Bind (fixed_RoundDiv s349.snd.fst s349.fst) fun (r376 : Int) =>
  Rx.Bind (fixed_RoundDiv s349.snd.snd.fst s349.fst) fun (r377 : Int) =>
  j374
  { Mass := s349.snd.snd.snd.snd.Mass, Center := { X := r376, Y := r377 : Vec }, Inertia := s349.snd.snd.snd.snd.Inertia : MassData }
  else j374 s349.snd.snd.snd.snd)
  fuel
  ((0 : Int), (0 : Int), (0 : Int), (0 : Int),
  { Mass := (0 : Int), Center := { X := (0 : Int), Y := (0 : Int) : Vec }, Inertia := (0 : Int) : MassData })

noncomputable def massdata_OfFixtures (fixtures0 : (List Fixture)) : Option MassData :=
  Let (↑fixtures0.length : Int) fun (x378 : Int) =>
  Let (decide (x378 > (4 : Int))) fun (x379 : Bool) =>
  if x379 = true then
  some { Mass := (0 : Int), Center := { X := (0 : Int), Y := (0 : Int) : Vec }, Inertia := (0 : Int) : MassData }
  else
  Let (↑fixtures0.length : Int) fun (x380 : Int) =>
  LOOP
  (fun (rec381 : List MassData × Int → Option MassData) (s382 : List MassData × Int) =>
  Let (decide (s382.snd < x380)) fun (x383 : Bool) =>
  if x383 = true then
  Join
  (fun (v384 : List MassData) => Let (IntKind.i64.wrap (s382.snd + (1 : Int))) fun (x385 : Int) => rec381 (v384, x385))
  fun (j386 : List MassData → Option MassData) =>
  Chk ((0 : Int) ≤ s382.snd ∧ s382.snd < (↑fixtures0.length : Int))
  (Let (ix fixtures0 s382.snd) fun (x387 : Fixture) =>
  Let (!x387.Sensor) fun (x388 : Bool) =>
  if x388 = true then
  Rx.Bind (massdata_OfShape x387.Shape x387.Density) fun (r389 : MassData) =>
  Chk ((List.length s382.fst + [r389].length) * (32 : Nat) ≤ (140737488355328 : Nat))
  (Let (s382.fst ++ [r389]) fun (x390 : List MassData) => j386 x390)
  else j386 s382.fst)
  else Rx.Bind (massdata_Combine s382.fst) fun (r391 : MassData) => some r391)
  fuel ([], (0 : Int))

noncomputable def body_MassData (b0 : Body) : Option MassData :=
  Rx.Bind (massdata_OfFixtures b0.Fixtures) fun (r392 : MassData) => some r392

noncomputable def angle_Normalize (a0 : Int) : Option Int :=
  Let (a0.tmod (411776 : Int)) fun (x393 : Int) =>
  Let (decide (x393 ≥ (205888 : Int))) fun (x394 : Bool) =>
  if x394 = true then Let (IntKind.i64.wrap (x393 - (411776 : Int))) fun (x395 : Int) => some x395
  else
  Let (decide (x393 < (-205888 : Int))) fun (x396 : Bool) =>
  if x396 = true then Let (IntKind.i64.wrap (x393 + (411776 : Int))) fun (x397 : Int) => some x397 else some x393

noncomputable def angle_abs (x0 : Int) : Option Int :=
  Let (decide (x0 < (0 : Int))) fun (x398 : Bool) =>
  if x398 = true then Let (IntKind.i64.wrap ((0 : Int) - x0)) fun (x399 : Int) => some x399 else some x0

noncomputable def fixed_Clamp (x0 : Int) (low1 : Int) (high2 : Int) : Option Int :=
  Let (decide (low1 > high2)) fun (x400 : Bool) =>
  Let (decide (x0 < low1)) fun (x401 : Bool) =>
  Let (bif x400 then true else x401) fun (x402 : Bool) =>
  if x402 = true then some low1
  else Let (decide (x0 > high2)) fun (x403 : Bool) => if x403 = true then some high2 else some x0

noncomputable def fixed_Div (a0 : Int) (b1 : Int) : Option Int :=
  Rx.Bind (fixed_Saturate a0) fun (r404 : Int) =>
  Let (IntKind.i64.wrap (r404 * (65536 : Int))) fun (x405 : Int) =>
  Rx.Bind (fixed_Saturate b1) fun (r406 : Int) =>
  Join
  (fun (v407 : Int × Int) =>
  Rx.Bind (fixed_RoundDiv v407.fst v407.snd) fun (r408 : Int) =>
  Rx.Bind (fixed_Saturate r408) fun (r409 : Int) => some r409)
  fun (j410 : Int × Int → Option Int) =>
  Let (r406 == (0 : Int)) fun (x411 : Bool) =>
  if x411 = true then
  Rx.Bind (fixed_Clamp x405 (-1 : Int) (1 : Int)) fun (r412 : Int) =>
  Let (IntKind.i64.wrap (r412 * (536870911 : Int))) fun (x413 : Int) => some x413
  else
  Let (decide (r406 < (0 : Int))) fun (x414 : Bool) =>
  if x414 = true then
  Let (IntKind.i64.wrap ((0 : Int) - x405)) fun (x415 : Int) =>
  Let (IntKind.i64.wrap ((0 : Int) - r406)) fun (x416 : Int) => j410 (x415, x416)
  else j410 (x405, r406)

noncomputable def angle_Sin (a0 : Int) : Option Int :=
  Rx.Bind (angle_Normalize a0) fun (r417 : Int) =>
  Rx.Bind (angle_abs r417) fun (r418 : Int) =>
  Join
  (fun (v419 : Int) =>
  Rx.Bind (fixed_Div v419 (102944 : Int)) fun (r420 : Int) =>
  Rx.Bind (fixed_Mul r420 r420) fun (r421 : Int) =>
  Rx.Bind (fixed_Mul r421 (4569 : Int)) fun (r422 : Int) =>
  Rx.Bind (fixed_Sub (41906 : Int) r422) fun (r423 : Int) =>
  Rx.Bind (fixed_Mul r421 r423) fun (r424 : Int) =>
  Rx.Bind (fixed_Sub (102873 : Int) r424) fun (r425 : Int) =>
  Rx.Bind (fixed_Mul r420 r425) fun (r426 : Int) =>
  Let (decide (r417 < (0 : Int))) fun (x427 : Bool) =>
  if x427 = true then Let (IntKind.i64.wrap ((0 : Int) - r426)) fun (x428 : Int) => some x428 else some r426)
  fun (j429 : Int → Option Int) =>
  Let (decide (r418 > (102944 : Int))) fun (x430 : Bool) =>
  if x430 = true then Let (IntKind.i64.wrap ((205888 : Int) - r418)) fun (x431 : Int) => j429 x431 else j429 r418

noncomputable def angle_Cos (a0 : Int) : Option Int :=
  Rx.Bind (angle_Normalize a0) fun (r432 : Int) =>
  Rx.Bind (angle_abs r432) fun (r433 : Int) =>
  Let (IntKind.i64.wrap ((102944 : Int) - r433)) fun (x434 : Int) =>
  Rx.Bind (angle_Sin x434) fun (r435 : Int) => some r435

noncomputable def angle_Rot (a0 : Int) : Option Rot :=
  Rx.Bind (angle_Cos a0) fun (r436 : Int) =>
  Rx.Bind (angle_Sin a0) fun (r437 : Int) =>
  Let (IntKind.i64.wrap (r436 * r436)) fun (x438 : Int) =>
  Let (IntKind.i64.wrap (r437 * r437)) fun (x439 : Int) =>
  Let (IntKind.i64.wrap (x438 + x439)) fun (x440 : Int) =>
  Rx.Bind (fixed_Isqrt x440) fun (r441 : Int) =>
  Rx.Bind (fixed_Div r436 r441) fun (r442 : Int) =>
  Rx.Bind (fixed_Div r437 r441) fun (r443 : Int) => some { Cos := r442, Sin := r443 : Rot }

noncomputable def vec2_Rotate (r0 : Rot) (v1 : Vec) : Option Vec :=
  Rx.Bind (fixed_Saturate r0.Cos) fun (r444 : Int) =>
  Rx.Bind (fixed_Saturate r0.Sin) fun (r445 : Int) =>
  Rx.Bind (vec2_saturate v1) fun (r446 : Vec) =>
  Let (IntKind.i64.wrap (r444 * r446.X)) fun (x447 : Int) =>
  Let (IntKind.i64.wrap (r445 * r446.Y)) fun (x448 : Int) =>
  Let (IntKind.i64.wrap (x447 - x448)) fun (x449 : Int) =>
  Rx.Bind (vec2_product x449) fun (r450 : Int) =>
  Let (IntKind.i64.wrap (r445 * r446.X)) fun (x451 : Int) =>
  Let (IntKind.i64.wrap (r444 * r446.Y)) fun (x452 : Int) =>
  Let (IntKind.i64.wrap (x451 + x452)) fun (x453 : Int) =>
  Rx.Bind (vec2_product x453) fun (r454 : Int) => some { X := r450, Y := r454 : Vec }

noncomputable def vec2_Add (a0 : Vec) (b1 : Vec) : Option Vec :=
  Rx.Bind (fixed_Add a0.X b1.X) fun (r455 : Int) =>
  Rx.Bind (fixed_Add a0.Y b1.Y) fun (r456 : Int) => some { X := r455, Y := r456 : Vec }

noncomputable def transform_Apply (t0 : Transform) (v1 : Vec) : Option Vec :=
  Rx.Bind (angle_Rot t0.Angle) fun (r457 : Rot) =>
  Rx.Bind (vec2_Rotate r457 v1) fun (r458 : Vec) => Rx.Bind (vec2_Add r458 t0.Position) fun (r459 : Vec) => some r459

noncomputable def body_WorldCenter (b0 : Body) : Option Vec :=
  Rx.Bind (body_MassData b0) fun (r460 : MassData) =>
  Rx.Bind (transform_Apply b0.Transform r460.Center) fun (r461 : Vec) => some r461

noncomputable def massdata_Inverse (m0 : MassData) (kind1 : Int) (fixedRotation2 : Bool) : Option (Int × Int) :=
  Let (kind1 != (3 : Int)) fun (x462 : Bool) =>
  if x462 = true then some ((0 : Int), (0 : Int))
  else
  Join
  (fun (v463 : Int) =>
  Join (fun (v464 : Int) => some (v463, v464)) fun (j465 : Int → Option (Int × Int)) =>
  Let (decide (m0.Inertia > (0 : Int))) fun (x466 : Bool) =>
  Let (!fixedRotation2) fun (x467 : Bool) =>
  Let (bif x466 then x467 else false) fun (x468 : Bool) =>
  if x468 = true then Rx.Bind (fixed_Div (65536 : Int) m0.Inertia) fun (r469 : Int) => j465 r469 else j465 (0 : Int))
  fun (j470 : Int → Option (Int × Int)) =>
  Let (decide (m0.Mass > (0 : Int))) fun (x471 : Bool) =>
  if x471 = true then Rx.Bind (fixed_Div (65536 : Int) m0.Mass) fun (r472 : Int) => j470 r472 else j470 (65536 : Int)

noncomputable def body_SolverBody (b0 : Body) : Option SolverBody :=
  Rx.Bind (body_MassData b0) fun (r473 : MassData) =>
  Rx.Bind (massdata_Inverse r473 b0.Kind b0.FixedRotation) fun (r474 : Int × Int) =>
  some
  { Velocity := b0.Velocity, AngularVelocity := b0.AngularVelocity, InvMass := r474.fst, InvInertia := r474.snd : SolverBody }

noncomputable def vec2_Scale (v0 : Vec) (k1 : Int) : Option Vec :=
  Rx.Bind (fixed_Mul v0.X k1) fun (r475 : Int) =>
  Rx.Bind (fixed_Mul v0.Y k1) fun (r476 : Int) => some { X := r475, Y := r476 : Vec }

noncomputable def body_ClampVelocity (b0 : Body) : Option Body :=
  Rx.Bind (fixed_Clamp b0.Velocity.X (-16777216 : Int) (16777216 : Int)) fun (r477 : Int) =>
  Rx.Bind (fixed_Clamp b0.Velocity.Y (-16777216 : Int) (16777216 : Int)) fun (r478 : Int) =>
  Rx.Bind (fixed_Clamp b0.AngularVelocity (-4194304 : Int) (4194304 : Int)) fun (r479 : Int) =>
  some
  { ID := b0.ID, Kind := b0.Kind, Transform := b0.Transform, Velocity := { X := r477, Y := r478 : Vec }, AngularVelocity := r479, Force := b0.Force, Torque := b0.Torque, LinearDamping := b0.LinearDamping, AngularDamping := b0.AngularDamping, GravityScale := b0.GravityScale, Bullet := b0.Bullet, FixedRotation := b0.FixedRotation, NoSleep := b0.NoSleep, Asleep := b0.Asleep, IdleSteps := b0.IdleSteps, Fixtures := b0.Fixtures : Body }

noncomputable def body_awake (b0 : Body) : Option Body :=
  Rx.Bind (body_ClampVelocity b0) fun (r480 : Body) =>
  some
  { ID := r480.ID, Kind := r480.Kind, Transform := r480.Transform, Velocity := r480.Velocity, AngularVelocity := r480.AngularVelocity, Force := r480.Force, Torque := r480.Torque, LinearDamping := r480.LinearDamping, AngularDamping := r480.AngularDamping, GravityScale := r480.GravityScale, Bullet := r480.Bullet, FixedRotation := r480.FixedRotation, NoSleep := r480.NoSleep, Asleep := false, IdleSteps := (0 : Int), Fixtures := r480.Fixtures : Body }

noncomputable def body_ApplyImpulse (b0 : Body) (point1 : Vec) (impulse2 : Vec) : Option Body :=
  Let (b0.Kind != (3 : Int)) fun (x481 : Bool) =>
  if x481 = true then some b0
  else
  Rx.Bind (body_SolverBody b0) fun (r482 : SolverBody) =>
  Rx.Bind (body_WorldCenter b0) fun (r483 : Vec) =>
  Rx.Bind (vec2_Sub point1 r483) fun (r484 : Vec) =>
  Rx.Bind (vec2_Scale impulse2 r482.InvMass) fun (r485 : Vec) =>
  Rx.Bind (vec2_Add b0.Velocity r485) fun (r486 : Vec) =>
  Rx.Bind (vec2_Cross r484 impulse2) fun (r487 : Int) =>
  Rx.Bind (fixed_Mul r487 r482.InvInertia) fun (r488 : Int) =>
  Rx.Bind (fixed_Add b0.AngularVelocity r488) fun (r489 : Int) =>
  Rx.Bind
  (body_awake
  { ID := b0.ID, Kind := b0.Kind, Transform := b0.Transform, Velocity := r486, AngularVelocity := r489, Force := b0.Force, Torque := b0.Torque, LinearDamping := b0.LinearDamping, AngularDamping := b0.AngularDamping, GravityScale := b0.GravityScale, Bullet := b0.Bullet, FixedRotation := b0.FixedRotation, NoSleep := b0.NoSleep, Asleep := b0.Asleep, IdleSteps := b0.IdleSteps, Fixtures := b0.Fixtures : Body })
  fun (r490 : Body) => some r490

noncomputable def shape_Vertices (s0 : Shape) (p1 : Transform) : Option (List Vec) :=
  Rx.Bind (shape_Validate s0) fun (r491 : Int) =>
  Let (r491 != (0 : Int)) fun (x492 : Bool) =>
  if x492 = true then some []
  else
  Let (↑s0.Vertices.length : Int) fun (x493 : Int) =>
  LOOP
  (fun (rec494 : List Vec × Int → Option (List Vec)) (s495 : List Vec × Int) =>
  Let (decide (s495.snd < x493)) fun (x496 : Bool) =>
  if x496 = true then
  Chk ((0 : Int) ≤ s495.snd ∧ s495.snd < (↑s0.Vertices.length : Int))
  (Let (ix s0.Vertices s495.snd) fun (x497 : Vec) =>
  Rx.Bind (transform_Apply p1 x497) fun (r498 : Vec) =>
  Chk ((List.length s495.fst + [r498].length) * (16 : Nat) ≤ (140737488355328 : Nat))
  (Let (s495.fst ++ [r498]) fun (x499 : List Vec) =>
  Let (IntKind.i64.wrap (s495.snd + (1 : Int))) fun (x500 : Int) => rec494 (x499, x500)))
  else some s495.fst)
  fuel ([], (0 : Int))

noncomputable def aabb_saturate (v0 : Vec) : Option Vec :=
  Rx.Bind (fixed_Saturate v0.X) fun (r501 : Int) =>
  Rx.Bind (fixed_Saturate v0.Y) fun (r502 : Int) => some { X := r501, Y := r502 : Vec }

noncomputable def aabb_lower (a0 : Vec) (b1 : Vec) : Option Vec :=
  Let (min a0.X b1.X) fun (x503 : Int) => Let (min a0.Y b1.Y) fun (x504 : Int) => some { X := x503, Y := x504 : Vec }

noncomputable def aabb_upper (a0 : Vec) (b1 : Vec) : Option Vec :=
  Let (max a0.X b1.X) fun (x505 : Int) => Let (max a0.Y b1.Y) fun (x506 : Int) => some { X := x505, Y := x506 : Vec }

noncomputable def aabb_FromPoints (points0 : (List Vec)) : Option (AABB × Bool) :=
  Let (↑points0.length : Int) fun (x507 : Int) =>
  Let (x507 == (0 : Int)) fun (x508 : Bool) =>
  if x508 = true then
  some
  ({ Min := { X := (0 : Int), Y := (0 : Int) : Vec }, Max := { X := (0 : Int), Y := (0 : Int) : Vec } : AABB }, false)
  else
  Chk ((0 : Int) ≤ (0 : Int) ∧ (0 : Int) < (↑points0.length : Int))
  (Let (ix points0 (0 : Int)) fun (x509 : Vec) =>
  Rx.Bind (aabb_saturate x509) fun (r510 : Vec) =>
  Chk ((0 : Int) ≤ (1 : Int) ∧ (1 : Int) ≤ (↑points0.length : Int))
  (Let (List.drop (1 : Nat) points0) fun (x511 : List Vec) =>
  Let (↑x511.length : Int) fun (x512 : Int) =>
  LOOP
  (fun (rec513 : Int × AABB → Option (AABB × Bool)) (s514 : Int × AABB) =>
  Let (decide (s514.fst < x512)) fun (x515 : Bool) =>
  if x515 = true then
  Chk ((0 : Int) ≤ s514.fst ∧ s514.fst < (↑x511.length : Int))
  (Let (ix x511 s514.fst) fun (x516 : Vec) =>
  Rx.Bind (aabb_saturate x516) fun (r517 : Vec) =>
  Rx.Bind (aabb_lower s514.snd.Min r517) fun (r518 : Vec) =>
  Rx.Bind (aabb_upper s514.snd.Max r517) fun (r519 : Vec) =>
  Let (IntKind.i64.wrap (s514.fst + (1 : Int))) fun (x520 : Int) => rec513 (x520, { Min := r518, Max := r519 : AABB }))
  else some (s514.snd, true))
  fuel ((0 : Int), { Min := r510, Max := r510 : AABB })))

noncomputable def shape_Bounds (s0 : Shape) (p1 : Transform) : Option AABB :=
  Rx.Bind (shape_Vertices s0 p1) fun (r521 : List Vec) =>
  Rx.Bind (aabb_FromPoints r521) fun (r522 : AABB × Bool) =>
  Let (!r522.snd) fun (x523 : Bool) =>
  if x523 = true then
  some { Min := { X := (0 : Int), Y := (0 : Int) : Vec }, Max := { X := (0 : Int), Y := (0 : Int) : Vec } : AABB }
  else
  Rx.Bind (vec2_Sub r522.fst.Min { X := s0.Radius, Y := s0.Radius : Vec }) fun (r524 : Vec) =>
  Rx.Bind (vec2_Add r522.fst.Max { X := s0.Radius, Y := s0.Radius : Vec }) fun (r525 : Vec) =>
  some { Min := r524, Max := r525 : AABB }

noncomputable def aabb_saturated (v0 : Vec) : Option Bool :=
  Rx.Bind (fixed_Saturate v0.X) fun (r526 : Int) =>
  Let (r526 == v0.X) fun (x527 : Bool) =>
  Rx.Bind (if (x527 == true) = true then fixed_Saturate v0.Y else some default) fun (r528 : Int) =>
  Let (r528 == v0.Y) fun (x529 : Bool) => Let (bif x527 then x529 else false) fun (x530 : Bool) => some x530

noncomputable def aabb_Valid (b0 : AABB) : Option Bool :=
  Let (decide (b0.Min.X ≤ b0.Max.X)) fun (x531 : Bool) =>
  Let (decide (b0.Min.Y ≤ b0.Max.Y)) fun (x532 : Bool) =>
  Let (bif x531 then x532 else false) fun (x533 : Bool) =>
  Rx.Bind (if (x533 == true) = true then aabb_saturated b0.Min else some default) fun (r534 : Bool) =>
  Let (bif x533 then r534 else false) fun (x535 : Bool) =>
  Rx.Bind (if (x535 == true) = true then aabb_saturated b0.Max else some default) fun (r536 : Bool) =>
  Let (bif x535 then r536 else false) fun (x537 : Bool) => some x537

noncomputable def aabb_Union (a0 : AABB) (b1 : AABB) : Option AABB :=
  Rx.Bind (aabb_Valid a0) fun (r538 : Bool) =>
  Rx.Bind (if (r538 == true) = true then aabb_Valid b1 else some default) fun (r539 : Bool) =>
  Let (bif r538 then r539 else false) fun (x540 : Bool) =>
  if x540 = true then
  Rx.Bind (aabb_lower a0.Min b1.Min) fun (r541 : Vec) =>
  Rx.Bind (aabb_upper a0.Max b1.Max) fun (r542 : Vec) => some { Min := r541, Max := r542 : AABB }
  else
  Rx.Bind (aabb_Valid a0) fun (r543 : Bool) =>
  if r543 = true then some a0
  else
  Rx.Bind (aabb_Valid b1) fun (r544 : Bool) =>
  if r544 = true then some b1
  else some { Min := { X := (0 : Int), Y := (0 : Int) : Vec }, Max := { X := (0 : Int), Y := (0 : Int) : Vec } : AABB }

noncomputable def body_Bounds (b0 : Body) : Option (AABB × Bool) :=
  Let (↑b0.Fixtures.length : Int) fun (x545 : Int) =>
  LOOP
  (fun (rec546 : Int × AABB → Option (AABB × Bool)) (s547 : Int × AABB) =>
  Let (decide (s547.fst < x545)) fun (x548 : Bool) =>
  if x548 = true then
  Join (fun (v549 : AABB) => Let (IntKind.i64.wrap (s547.fst + (1 : Int))) fun (x550 : Int) => rec546 (x550, v549))
  fun (j551 : AABB → Option (AABB × Bool)) =>
  Chk ((0 : Int) ≤ s547.fst ∧ s547.fst < (↑b0.Fixtures.length : Int))
  (Let (ix b0.Fixtures s547.fst) fun (x552 : Fixture) =>
  Rx.Bind (shape_Bounds x552.Shape b0.Transform) fun (r553 : AABB) =>
  Let (s547.fst == (0 : Int)) fun (x554 : Bool) =>
  if x554 = true then j551 r553 else Rx.Bind (aabb_Union s547.snd r553) fun (r555 : AABB) => j551 r555)
  else
  Let (↑b0.Fixtures.length : Int) fun (x556 : Int) =>
  Let (decide (x556 > (0 : Int))) fun (x557 : Bool) => some (s547.snd, x557))
  fuel
  ((0 : Int), { Min := { X := (0 : Int), Y := (0 : Int) : Vec }, Max := { X := (0 : Int), Y := (0 : Int) : Vec } : AABB })

noncomputable def body_within (x0 : Int) (low1 : Int) (high2 : Int) : Option Bool :=
  Let (decide (low1 ≤ x0)) fun (x558 : Bool) =>
  Let (decide (x0 ≤ high2)) fun (x559 : Bool) => Let (bif x558 then x559 else false) fun (x560 : Bool) => some x560

noncomputable def body_bounded (v0 : Vec) (limit1 : Int) : Option Bool :=
  Let (IntKind.i64.wrap ((0 : Int) - limit1)) fun (x561 : Int) =>
  Rx.Bind (body_within v0.X x561 limit1) fun (r562 : Bool) =>
  Let (IntKind.i64.wrap ((0 : Int) - limit1)) fun (x563 : Int) =>
  Rx.Bind (if (r562 == true) = true then body_within v0.Y x563 limit1 else some default) fun (r564 : Bool) =>
  Let (bif r562 then r564 else false) fun (x565 : Bool) => some x565

noncomputable def transform_inWorld (x0 : Int) : Option Bool :=
  Let (decide (x0 ≥ (-268435456 : Int))) fun (x566 : Bool) =>
  Let (decide (x0 ≤ (268435456 : Int))) fun (x567 : Bool) =>
  Let (bif x566 then x567 else false) fun (x568 : Bool) => some x568

noncomputable def transform_Valid (t0 : Transform) : Option Bool :=
  Rx.Bind (transform_inWorld t0.Position.X) fun (r569 : Bool) =>
  Rx.Bind (if (r569 == true) = true then transform_inWorld t0.Position.Y else some default) fun (r570 : Bool) =>
  Let (bif r569 then r570 else false) fun (x571 : Bool) =>
  Let (decide (t0.Angle ≥ (-205888 : Int))) fun (x572 : Bool) =>
  Let (bif x571 then x572 else false) fun (x573 : Bool) =>
  Let (decide (t0.Angle < (205888 : Int))) fun (x574 : Bool) =>
  Let (bif x573 then x574 else false) fun (x575 : Bool) => some x575

noncomputable def body_inRange (b0 : Body) : Option Bool :=
  Rx.Bind (body_bounded b0.Velocity (16777216 : Int)) fun (r576 : Bool) =>
  Rx.Bind
  (if (r576 == true) = true then body_within b0.AngularVelocity (-4194304 : Int) (4194304 : Int) else some default)
  fun (r577 : Bool) =>
  Let (bif r576 then r577 else false) fun (x578 : Bool) =>
  Rx.Bind (body_bounded b0.Force (536870911 : Int)) fun (r579 : Bool) =>
  Rx.Bind (if (r579 == true) = true then body_within b0.Torque (-536870911 : Int) (536870911 : Int) else some default)
  fun (r580 : Bool) =>
  Let (bif r579 then r580 else false) fun (x581 : Bool) =>
  Rx.Bind (body_within b0.LinearDamping (0 : Int) (65536 : Int)) fun (r582 : Bool) =>
  Rx.Bind (if (r582 == true) = true then body_within b0.AngularDamping (0 : Int) (65536 : Int) else some default)
  fun (r583 : Bool) =>
  Let (bif r582 then r583 else false) fun (x584 : Bool) =>
  Rx.Bind (body_within b0.GravityScale (-262144 : Int) (262144 : Int)) fun (r585 : Bool) =>
  Rx.Bind (body_within b0.ID (1 : Int) (1099511627776 : Int)) fun (r586 : Bool) =>
  Rx.Bind (if (r586 == true) = true then transform_Valid b0.Transform else some default) fun (r587 : Bool) =>
  Let (bif r586 then r587 else false) fun (x588 : Bool) =>
  Let (bif x588 then x578 else false) fun (x589 : Bool) =>
  Let (bif x589 then x581 else false) fun (x590 : Bool) =>
  Let (bif x590 then x584 else false) fun (x591 : Bool) =>
  Let (bif x591 then r585 else false) fun (x592 : Bool) =>
  Rx.Bind (if (x592 == true) = true then body_within b0.IdleSteps (0 : Int) (1048576 : Int) else some default)
  fun (r593 : Bool) => Let (bif x592 then r593 else false) fun (x594 : Bool) => some x594

noncomputable def body_ValidateFixture (f0 : Fixture) : Option Int :=
  Rx.Bind (shape_Validate f0.Shape) fun (r595 : Int) =>
  Let (r595 != (0 : Int)) fun (x596 : Bool) =>
  if x596 = true then some r595
  else
  Rx.Bind (body_within f0.Density (0 : Int) (262144 : Int)) fun (r597 : Bool) =>
  Rx.Bind (if (r597 == true) = true then body_within f0.Friction (0 : Int) (131072 : Int) else some default)
  fun (r598 : Bool) =>
  Let (bif r597 then r598 else false) fun (x599 : Bool) =>
  Rx.Bind (if (x599 == true) = true then body_within f0.Restitution (0 : Int) (65536 : Int) else some default)
  fun (r600 : Bool) =>
  Let (bif x599 then r600 else false) fun (x601 : Bool) =>
  Rx.Bind (body_within f0.Category (0 : Int) (65535 : Int)) fun (r602 : Bool) =>
  Rx.Bind (if (r602 == true) = true then body_within f0.Mask (0 : Int) (65535 : Int) else some default)
  fun (r603 : Bool) =>
  Let (bif r602 then r603 else false) fun (x604 : Bool) =>
  Rx.Bind (if (x604 == true) = true then body_within f0.Group (-32 : Int) (32 : Int) else some default)
  fun (r605 : Bool) =>
  Let (bif x604 then r605 else false) fun (x606 : Bool) =>
  Let (!x601) fun (x607 : Bool) =>
  Let (!x606) fun (x608 : Bool) =>
  Let (bif x607 then true else x608) fun (x609 : Bool) => if x609 = true then some (6 : Int) else some (0 : Int)

noncomputable def body_moving (b0 : Body) : Option Bool :=
  Let (!(decide (b0.Velocity.X = (0 : Int)) && decide (b0.Velocity.Y = (0 : Int)))) fun (x610 : Bool) =>
  Let (b0.AngularVelocity != (0 : Int)) fun (x611 : Bool) =>
  Let (bif x610 then true else x611) fun (x612 : Bool) => some x612

noncomputable def body_consistent (b0 : Body) : Option Bool :=
  Let (!(decide (b0.Force.X = (0 : Int)) && decide (b0.Force.Y = (0 : Int)))) fun (x613 : Bool) =>
  Let (b0.Torque != (0 : Int)) fun (x614 : Bool) =>
  Let (bif x613 then true else x614) fun (x615 : Bool) =>
  Let (b0.Kind == (1 : Int)) fun (x616 : Bool) =>
  Rx.Bind (if (x616 == true) = true then body_moving b0 else some default) fun (r617 : Bool) =>
  Let (bif r617 then true else x615) fun (x618 : Bool) =>
  Let (bif x616 then x618 else false) fun (x619 : Bool) =>
  if x619 = true then some false
  else
  Let (b0.Kind != (3 : Int)) fun (x620 : Bool) =>
  Let (bif b0.Asleep then true else b0.Bullet) fun (x621 : Bool) =>
  Let (bif x620 then x621 else false) fun (x622 : Bool) =>
  if x622 = true then some false
  else
  Let (!b0.Asleep) fun (x623 : Bool) =>
  Rx.Bind (if (x623 == false) = true then body_moving b0 else some default) fun (r624 : Bool) =>
  Let (!r624) fun (x625 : Bool) => Let (bif x623 then true else x625) fun (x626 : Bool) => some x626

noncomputable def body_Validate (b0 : Body) : Option Int :=
  Let (b0.Kind != (1 : Int)) fun (x627 : Bool) =>
  Let (b0.Kind != (2 : Int)) fun (x628 : Bool) =>
  Let (bif x627 then x628 else false) fun (x629 : Bool) =>
  Let (b0.Kind != (3 : Int)) fun (x630 : Bool) =>
  Let (bif x629 then x630 else false) fun (x631 : Bool) =>
  if x631 = true then some (10 : Int)
  else
  Rx.Bind (body_inRange b0) fun (r632 : Bool) =>
  Let (!r632) fun (x633 : Bool) =>
  if x633 = true then some (6 : Int)
  else
  Let (↑b0.Fixtures.length : Int) fun (x634 : Int) =>
  Let (decide (x634 > (4 : Int))) fun (x635 : Bool) =>
  if x635 = true then some (11 : Int)
  else
  Let (↑b0.Fixtures.length : Int) fun (x636 : Int) =>
  LOOP
  (fun (rec637 : Int → Option Int) (s638 : Int) =>
  Let (decide (s638 < x636)) fun (x639 : Bool) =>
  if x639 = true then
  Chk ((0 : Int) ≤ s638 ∧ s638 < (↑b0.Fixtures.length : Int))
  (Let (ix b0.Fixtures s638) fun (x640 : Fixture) =>
  Rx.Bind (body_ValidateFixture x640) fun (r641 : Int) =>
  Let (r641 != (0 : Int)) fun (x642 : Bool) =>
  if x642 = true then some (13 : Int) else Let (IntKind.i64.wrap (s638 + (1 : Int))) fun (x643 : Int) => rec637 x643)
  else
  Rx.Bind (body_consistent b0) fun (r644 : Bool) =>
  Let (!r644) fun (x645 : Bool) => if x645 = true then some (14 : Int) else some (0 : Int))
  fuel (0 : Int)

noncomputable def aabb_overlaps (a0 : AABB) (b1 : AABB) : Option Bool :=
  Let (decide (a0.Min.X ≤ b1.Max.X)) fun (x646 : Bool) =>
  Let (decide (b1.Min.X ≤ a0.Max.X)) fun (x647 : Bool) =>
  Let (bif x646 then x647 else false) fun (x648 : Bool) =>
  Let (decide (a0.Min.Y ≤ b1.Max.Y)) fun (x649 : Bool) =>
  Let (bif x648 then x649 else false) fun (x650 : Bool) =>
  Let (decide (b1.Min.Y ≤ a0.Max.Y)) fun (x651 : Bool) =>
  Let (bif x650 then x651 else false) fun (x652 : Bool) => some x652

noncomputable def aabb_Overlaps (a0 : AABB) (b1 : AABB) : Option Bool :=
  Rx.Bind (aabb_Valid a0) fun (r653 : Bool) =>
  Rx.Bind (if (r653 == true) = true then aabb_Valid b1 else some default) fun (r654 : Bool) =>
  Let (bif r653 then r654 else false) fun (x655 : Bool) =>
  Rx.Bind (if (x655 == true) = true then aabb_overlaps a0 b1 else some default) fun (r656 : Bool) =>
  Let (bif x655 then r656 else false) fun (x657 : Bool) => some x657

noncomputable def segment_Intersects (a0 : Vec) (b1 : Vec) (c2 : Vec) (d3 : Vec) : Option Bool :=
  Rx.Bind (aabb_FromPoints [a0, b1]) fun (r658 : AABB × Bool) =>
  Rx.Bind (aabb_FromPoints [c2, d3]) fun (r659 : AABB × Bool) =>
  Rx.Bind (vec2_Orientation a0 b1 c2) fun (r660 : Int) =>
  Rx.Bind (vec2_Orientation a0 b1 d3) fun (r661 : Int) =>
  Let (IntKind.i64.wrap (r660 * r661)) fun (x662 : Int) =>
  Let (decide (x662 > (0 : Int))) fun (x663 : Bool) =>
  Rx.Bind (if (x663 == false) = true then vec2_Orientation c2 d3 a0 else some default) fun (r664 : Int) =>
  Rx.Bind (if (x663 == false) = true then vec2_Orientation c2 d3 b1 else some default) fun (r665 : Int) =>
  Let (IntKind.i64.wrap (r664 * r665)) fun (x666 : Int) =>
  Let (decide (x666 > (0 : Int))) fun (x667 : Bool) =>
  Let (bif x663 then true else x667) fun (x668 : Bool) =>
  Let (!x668) fun (x669 : Bool) =>
  Rx.Bind (if (x669 == true) = true then aabb_Overlaps r658.fst r659.fst else some default) fun (r670 : Bool) =>
  Let (bif x669 then r670 else false) fun (x671 : Bool) => some x671

noncomputable def segment_saturate (v0 : Vec) : Option Vec :=
  Rx.Bind (fixed_Saturate v0.X) fun (r672 : Int) =>
  Rx.Bind (fixed_Saturate v0.Y) fun (r673 : Int) => some { X := r672, Y := r673 : Vec }

noncomputable def segment_lineDistance (c0 : Vec) (d1 : Vec) (p2 : Vec) : Option Int :=
  Let (IntKind.i64.wrap (d1.X - c0.X)) fun (x674 : Int) =>
  Let (IntKind.i64.wrap (p2.Y - c0.Y)) fun (x675 : Int) =>
  Let (IntKind.i64.wrap (x674 * x675)) fun (x676 : Int) =>
  Let (IntKind.i64.wrap (d1.Y - c0.Y)) fun (x677 : Int) =>
  Let (IntKind.i64.wrap (p2.X - c0.X)) fun (x678 : Int) =>
  Let (IntKind.i64.wrap (x677 * x678)) fun (x679 : Int) =>
  Let (IntKind.i64.wrap (x676 - x679)) fun (x680 : Int) =>
  Let (IntKind.i64.wrap ((0 : Int) - x680)) fun (x681 : Int) => Let (max x680 x681) fun (x682 : Int) => some x682

noncomputable def fixed_Ratio (n0 : Int) (d1 : Int) : Option Int :=
  Let (decide (d1 < (1 : Int))) fun (x683 : Bool) =>
  Let (decide (d1 > (4611686018427387904 : Int))) fun (x684 : Bool) =>
  Let (bif x683 then true else x684) fun (x685 : Bool) =>
  Let (decide (n0 < (1 : Int))) fun (x686 : Bool) =>
  Let (bif x685 then true else x686) fun (x687 : Bool) =>
  if x687 = true then some (0 : Int)
  else
  Let (decide (n0 ≥ d1)) fun (x688 : Bool) =>
  if x688 = true then some (65536 : Int)
  else
  Let (decide (d1 < (70368744177664 : Int))) fun (x689 : Bool) =>
  if x689 = true then
  Let (IntKind.i64.wrap (n0 * (65536 : Int))) fun (x690 : Int) =>
  Rx.Bind (fixed_RoundDiv x690 d1) fun (r691 : Int) => some r691
  else
  Rx.Bind (fixed_RoundDiv d1 (65536 : Int)) fun (r692 : Int) =>
  Rx.Bind (fixed_RoundDiv n0 r692) fun (r693 : Int) => Let (min r693 (65536 : Int)) fun (x694 : Int) => some x694

noncomputable def segment_ClosestPoint (a0 : Vec) (b1 : Vec) (p2 : Vec) : Option (Vec × Int) :=
  Rx.Bind (segment_saturate a0) fun (r695 : Vec) =>
  Rx.Bind (segment_saturate b1) fun (r696 : Vec) =>
  Rx.Bind (segment_saturate p2) fun (r697 : Vec) =>
  Let (IntKind.i64.wrap (r697.X - r695.X)) fun (x698 : Int) =>
  Let (IntKind.i64.wrap (r696.X - r695.X)) fun (x699 : Int) =>
  Let (IntKind.i64.wrap (x698 * x699)) fun (x700 : Int) =>
  Let (IntKind.i64.wrap (r697.Y - r695.Y)) fun (x701 : Int) =>
  Let (IntKind.i64.wrap (r696.Y - r695.Y)) fun (x702 : Int) =>
  Let (IntKind.i64.wrap (x701 * x702)) fun (x703 : Int) =>
  Let (IntKind.i64.wrap (x700 + x703)) fun (x704 : Int) =>
  Rx.Bind (vec2_DistanceSquared r695 r696) fun (r705 : Int) =>
  Rx.Bind (fixed_Ratio x704 r705) fun (r706 : Int) =>
  Let (r706 == (0 : Int)) fun (x707 : Bool) =>
  if x707 = true then some (r695, r706)
  else
  Let (r706 == (65536 : Int)) fun (x708 : Bool) =>
  if x708 = true then some (r696, r706) else Rx.Bind (vec2_Lerp r695 r696 r706) fun (r709 : Vec) => some (r709, r706)

noncomputable def segment_ClosestPoints (a0 : Vec) (b1 : Vec) (c2 : Vec) (d3 : Vec) : Option (Vec × Vec) :=
  Rx.Bind (segment_saturate a0) fun (r710 : Vec) =>
  Rx.Bind (segment_saturate b1) fun (r711 : Vec) =>
  Rx.Bind (segment_saturate c2) fun (r712 : Vec) =>
  Rx.Bind (segment_saturate d3) fun (r713 : Vec) =>
  Rx.Bind (segment_Intersects r710 r711 r712 r713) fun (r714 : Bool) =>
  if r714 = true then
  Rx.Bind (segment_lineDistance r712 r713 r710) fun (r715 : Int) =>
  Rx.Bind (segment_lineDistance r712 r713 r711) fun (r716 : Int) =>
  Let (IntKind.i64.wrap (r715 + r716)) fun (x717 : Int) =>
  Rx.Bind (fixed_Ratio r715 x717) fun (r718 : Int) =>
  Rx.Bind (vec2_Lerp r710 r711 r718) fun (r719 : Vec) => some (r719, r719)
  else
  Rx.Bind (segment_ClosestPoint r712 r713 r710) fun (r720 : Vec × Int) =>
  Rx.Bind (segment_ClosestPoint r712 r713 r711) fun (r721 : Vec × Int) =>
  Rx.Bind (segment_ClosestPoint r710 r711 r712) fun (r722 : Vec × Int) =>
  Rx.Bind (segment_ClosestPoint r710 r711 r713) fun (r723 : Vec × Int) =>
  Let
  (↑[{ x := r711, y := r721.fst : segment_candidate }, { x := r722.fst, y := r712 : segment_candidate },
  { x := r723.fst, y := r713 : segment_candidate }].length :
  Int)
  fun (x724 : Int) =>
  LOOP
  (fun (rec725 : Int × segment_candidate → Option (Vec × Vec)) (s726 : Int × segment_candidate) =>
  Let (decide (s726.fst < x724)) fun (x727 : Bool) =>
  if x727 = true then
  Join
  (fun (v728 : segment_candidate) =>
  Let (IntKind.i64.wrap (s726.fst + (1 : Int))) fun (x729 : Int) => rec725 (x729, v728))
  fun (j730 : segment_candidate → Option (Vec × Vec)) =>
  Chk
  ((0 : Int) ≤ s726.fst ∧
  s726.fst <
  (↑[{ x := r711, y := r721.fst : segment_candidate }, { x := r722.fst, y := r712 : segment_candidate },
  { x := r723.fst, y := r713 : segment_candidate }].length :
  Int))
  (Let
  (ix
  [{ x := r711, y := r721.fst : segment_candidate }, { x := r722.fst, y := r712 : segment_candidate },
  { x := r723.fst, y := r713 : segment_candidate }]
  s726.fst)
  fun (x731 : segment_candidate) =>
  Rx.Bind (vec2_DistanceSquared x731.x x731.y) fun (r732 : Int) =>
  Rx.Bind (vec2_DistanceSquared s726.snd.x s726.snd.y) fun (r733 : Int) =>
  Let (decide (r732 < r733)) fun (x734 : Bool) => if x734 = true then j730 x731 else j730 s726.snd)
  else some (s726.snd.x, s726.snd.y))
  fuel ((0 : Int), { x := r710, y := r720.fst : segment_candidate })

noncomputable def segment_Distance (a0 : Vec) (b1 : Vec) (c2 : Vec) (d3 : Vec) : Option Int :=
  Rx.Bind (segment_Intersects a0 b1 c2 d3) fun (r735 : Bool) =>
  if r735 = true then some (0 : Int)
  else
  Rx.Bind (segment_ClosestPoints a0 b1 c2 d3) fun (r736 : Vec × Vec) =>
  Rx.Bind (vec2_DistanceSquared r736.fst r736.snd) fun (r737 : Int) =>
  Rx.Bind (fixed_Isqrt r737) fun (r738 : Int) => Rx.Bind (fixed_Saturate r738) fun (r739 : Int) => some r739

noncomputable def shape_ContainsPoint (s0 : Shape) (p1 : Transform) (v2 : Vec) : Option Bool :=
  Rx.Bind (shape_Vertices s0 p1) fun (r740 : List Vec) =>
  Let (↑r740.length : Int) fun (x741 : Int) =>
  Let (x741 == (0 : Int)) fun (x742 : Bool) =>
  if x742 = true then some false
  else
  Let (x741 == (1 : Int)) fun (x743 : Bool) =>
  if x743 = true then
  Chk ((0 : Int) ≤ (0 : Int) ∧ (0 : Int) < (↑r740.length : Int))
  (Chk ((0 : Int) ≤ (0 : Int) ∧ (0 : Int) < (↑r740.length : Int))
  (Let (ix r740 (0 : Int)) fun (x744 : Vec) =>
  Rx.Bind (vec2_Sub v2 x744) fun (r745 : Vec) =>
  Rx.Bind (vec2_Length r745) fun (r746 : Int) => Let (decide (r746 ≤ s0.Radius)) fun (x747 : Bool) => some x747))
  else
  Let (x741 == (2 : Int)) fun (x748 : Bool) =>
  if x748 = true then
  Chk ((0 : Int) ≤ (0 : Int) ∧ (0 : Int) < (↑r740.length : Int))
  (Chk ((0 : Int) ≤ (0 : Int) ∧ (0 : Int) < (↑r740.length : Int))
  (Let (ix r740 (0 : Int)) fun (x749 : Vec) =>
  Chk ((0 : Int) ≤ (1 : Int) ∧ (1 : Int) < (↑r740.length : Int))
  (Chk ((0 : Int) ≤ (1 : Int) ∧ (1 : Int) < (↑r740.length : Int))
  (Let (ix r740 (1 : Int)) fun (x750 : Vec) =>
  Rx.Bind (segment_Distance v2 v2 x749 x750) fun (r751 : Int) =>
  Let (decide (r751 ≤ s0.Radius)) fun (x752 : Bool) => some x752))))
  else
  Let (↑r740.length : Int) fun (x753 : Int) =>
  LOOP
  (fun (rec754 : Int → Option Bool) (s755 : Int) =>
  Let (decide (s755 < x753)) fun (x756 : Bool) =>
  if x756 = true then
  Chk ((0 : Int) ≤ s755 ∧ s755 < (↑r740.length : Int))
  (Chk ((0 : Int) ≤ s755 ∧ s755 < (↑r740.length : Int))
  (Let (ix r740 s755) fun (x757 : Vec) =>
  Let (IntKind.i64.wrap (s755 + (1 : Int))) fun (x758 : Int) =>
  Let (↑r740.length : Int) fun (x759 : Int) =>
  Chk (x759 ≠ (0 : Int))
  (Let (x758.tmod x759) fun (x760 : Int) =>
  Chk ((0 : Int) ≤ x760 ∧ x760 < (↑r740.length : Int))
  (Chk ((0 : Int) ≤ x760 ∧ x760 < (↑r740.length : Int))
  (Let (ix r740 x760) fun (x761 : Vec) =>
  Rx.Bind (vec2_Orientation x757 x761 v2) fun (r762 : Int) =>
  Let (decide (r762 < (0 : Int))) fun (x763 : Bool) =>
  if x763 = true then some false else Let (IntKind.i64.wrap (s755 + (1 : Int))) fun (x764 : Int) => rec754 x764)))))
  else some true)
  fuel (0 : Int)

noncomputable def body_FixtureAt (b0 : Body) (point1 : Vec) : Option Int :=
  Let (↑b0.Fixtures.length : Int) fun (x765 : Int) =>
  LOOP
  (fun (rec766 : Int → Option Int) (s767 : Int) =>
  Let (decide (s767 < x765)) fun (x768 : Bool) =>
  if x768 = true then
  Chk ((0 : Int) ≤ s767 ∧ s767 < (↑b0.Fixtures.length : Int))
  (Let (ix b0.Fixtures s767) fun (x769 : Fixture) =>
  Rx.Bind (shape_ContainsPoint x769.Shape b0.Transform point1) fun (r770 : Bool) =>
  if r770 = true then some s767 else Let (IntKind.i64.wrap (s767 + (1 : Int))) fun (x771 : Int) => rec766 x771)
  else some (-1 : Int))
  fuel (0 : Int)

noncomputable def slices_Clone (s0 : (List Vec)) : Option (List Vec) :=
  Rx.Alike (s0 = []) (some []) (Chk (s0.length * (16 : Nat) ≤ (140737488355328 : Nat)) (some s0))

noncomputable def shape_Clone (s0 : Shape) : Option Shape :=
  Rx.Bind (slices_Clone s0.Vertices) fun (r772 : List Vec) =>
  some { Kind := s0.Kind, Radius := s0.Radius, Vertices := r772 : Shape }

noncomputable def body_Clone (b0 : Body) : Option Body :=
  Let (↑b0.Fixtures.length : Int) fun (x773 : Int) =>
  LOOP
  (fun (rec774 : List Fixture × Int → Option Body) (s775 : List Fixture × Int) =>
  Let (decide (s775.snd < x773)) fun (x776 : Bool) =>
  if x776 = true then
  Chk ((0 : Int) ≤ s775.snd ∧ s775.snd < (↑b0.Fixtures.length : Int))
  (Let (ix b0.Fixtures s775.snd) fun (x777 : Fixture) =>
  Rx.Bind (shape_Clone x777.Shape) fun (r778 : Shape) =>
  Chk
  ((List.length s775.fst +
  [{ Shape := r778, Density := x777.Density, Friction := x777.Friction, Restitution := x777.Restitution, Sensor := x777.Sensor, Category := x777.Category, Mask := x777.Mask, Group := x777.Group : Fixture }].length) *
  (96 : Nat) ≤
  (140737488355328 : Nat))
  (Let
  (s775.fst ++
  [{ Shape := r778, Density := x777.Density, Friction := x777.Friction, Restitution := x777.Restitution, Sensor := x777.Sensor, Category := x777.Category, Mask := x777.Mask, Group := x777.Group : Fixture }])
  fun (x779 : List Fixture) => Let (IntKind.i64.wrap (s775.snd + (1 : Int))) fun (x780 : Int) => rec774 (x779, x780)))
  else
  some
  { ID := b0.ID, Kind := b0.Kind, Transform := b0.Transform, Velocity := b0.Velocity, AngularVelocity := b0.AngularVelocity, Force := b0.Force, Torque := b0.Torque, LinearDamping := b0.LinearDamping, AngularDamping := b0.AngularDamping, GravityScale := b0.GravityScale, Bullet := b0.Bullet, FixedRotation := b0.FixedRotation, NoSleep := b0.NoSleep, Asleep := b0.Asleep, IdleSteps := b0.IdleSteps, Fixtures := s775.fst : Body })
  fuel ([], (0 : Int))

noncomputable def slices_Equal (s10 : (List Vec)) (s21 : (List Vec)) : Option Bool :=
  Let (↑s10.length : Int) fun (x781 : Int) =>
  Let (↑s21.length : Int) fun (x782 : Int) =>
  Let (x781 != x782) fun (x783 : Bool) =>
  if x783 = true then some false
  else
  Let (↑s10.length : Int) fun (x784 : Int) =>
  LOOP
  (fun (rec785 : Int → Option Bool) (s786 : Int) =>
  Let (decide (s786 < x784)) fun (x787 : Bool) =>
  if x787 = true then
  Chk ((0 : Int) ≤ s786 ∧ s786 < (↑s10.length : Int))
  (Let (ix s10 s786) fun (x788 : Vec) =>
  Chk ((0 : Int) ≤ s786 ∧ s786 < (↑s21.length : Int))
  (Let (ix s21 s786) fun (x789 : Vec) =>
  Let (!(decide (x788.X = x789.X) && decide (x788.Y = x789.Y))) fun (x790 : Bool) =>
  if x790 = true then some false else Let (IntKind.i64.wrap (s786 + (1 : Int))) fun (x791 : Int) => rec785 x791))
  else some true)
  fuel (0 : Int)

noncomputable def shape_Equal (a0 : Shape) (b1 : Shape) : Option Bool :=
  Let (a0.Kind == b1.Kind) fun (x792 : Bool) =>
  Let (a0.Radius == b1.Radius) fun (x793 : Bool) =>
  Let (bif x792 then x793 else false) fun (x794 : Bool) =>
  Rx.Bind (if (x794 == true) = true then slices_Equal a0.Vertices b1.Vertices else some default) fun (r795 : Bool) =>
  Let (bif x794 then r795 else false) fun (x796 : Bool) => some x796

noncomputable def body_equalFixtures (a0 : Fixture) (b1 : Fixture) : Option Bool :=
  Let (a0.Density == b1.Density) fun (x797 : Bool) =>
  Let (a0.Friction == b1.Friction) fun (x798 : Bool) =>
  Let (bif x797 then x798 else false) fun (x799 : Bool) =>
  Let (a0.Restitution == b1.Restitution) fun (x800 : Bool) =>
  Let (bif x799 then x800 else false) fun (x801 : Bool) =>
  Let (a0.Sensor == b1.Sensor) fun (x802 : Bool) =>
  Let (a0.Category == b1.Category) fun (x803 : Bool) =>
  Let (bif x802 then x803 else false) fun (x804 : Bool) =>
  Let (a0.Mask == b1.Mask) fun (x805 : Bool) =>
  Let (bif x804 then x805 else false) fun (x806 : Bool) =>
  Let (a0.Group == b1.Group) fun (x807 : Bool) =>
  Let (bif x806 then x807 else false) fun (x808 : Bool) =>
  Rx.Bind (shape_Equal a0.Shape b1.Shape) fun (r809 : Bool) =>
  Let (bif r809 then x801 else false) fun (x810 : Bool) =>
  Let (bif x810 then x808 else false) fun (x811 : Bool) => some x811

noncomputable def body_Equal (a0 : Body) (b1 : Body) : Option Bool :=
  Let (↑a0.Fixtures.length : Int) fun (x812 : Int) =>
  Let (↑b1.Fixtures.length : Int) fun (x813 : Int) =>
  Let (x812 != x813) fun (x814 : Bool) =>
  if x814 = true then some false
  else
  Let (↑a0.Fixtures.length : Int) fun (x815 : Int) =>
  LOOP
  (fun (rec816 : Int → Option Bool) (s817 : Int) =>
  Let (decide (s817 < x815)) fun (x818 : Bool) =>
  if x818 = true then
  Chk ((0 : Int) ≤ s817 ∧ s817 < (↑a0.Fixtures.length : Int))
  (Let (ix a0.Fixtures s817) fun (x819 : Fixture) =>
  Chk ((0 : Int) ≤ s817 ∧ s817 < (↑b1.Fixtures.length : Int))
  (Let (ix b1.Fixtures s817) fun (x820 : Fixture) =>
  Rx.Bind (body_equalFixtures x819 x820) fun (r821 : Bool) =>
  Let (!r821) fun (x822 : Bool) =>
  if x822 = true then some false else Let (IntKind.i64.wrap (s817 + (1 : Int))) fun (x823 : Int) => rec816 x823))
  else
  Let (a0.ID == b1.ID) fun (x824 : Bool) =>
  Let (a0.Kind == b1.Kind) fun (x825 : Bool) =>
  Let (bif x824 then x825 else false) fun (x826 : Bool) =>
  Let
  (decide (a0.Transform.Position.X = b1.Transform.Position.X) &&
  decide (a0.Transform.Position.Y = b1.Transform.Position.Y) &&
  decide (a0.Transform.Angle = b1.Transform.Angle))
  fun (x827 : Bool) =>
  Let (bif x826 then x827 else false) fun (x828 : Bool) =>
  Let (decide (a0.Velocity.X = b1.Velocity.X) && decide (a0.Velocity.Y = b1.Velocity.Y)) fun (x829 : Bool) =>
  Let (a0.AngularVelocity == b1.AngularVelocity) fun (x830 : Bool) =>
  Let (bif x829 then x830 else false) fun (x831 : Bool) =>
  Let (decide (a0.Force.X = b1.Force.X) && decide (a0.Force.Y = b1.Force.Y)) fun (x832 : Bool) =>
  Let (a0.Torque == b1.Torque) fun (x833 : Bool) =>
  Let (bif x832 then x833 else false) fun (x834 : Bool) =>
  Let (a0.LinearDamping == b1.LinearDamping) fun (x835 : Bool) =>
  Let (a0.AngularDamping == b1.AngularDamping) fun (x836 : Bool) =>
  Let (bif x835 then x836 else false) fun (x837 : Bool) =>
  Let (a0.GravityScale == b1.GravityScale) fun (x838 : Bool) =>
  Let (bif x837 then x838 else false) fun (x839 : Bool) =>
  Let (a0.Bullet == b1.Bullet) fun (x840 : Bool) =>
  Let (a0.FixedRotation == b1.FixedRotation) fun (x841 : Bool) =>
  Let (bif x840 then x841 else false) fun (x842 : Bool) =>
  Let (a0.NoSleep == b1.NoSleep) fun (x843 : Bool) =>
  Let (bif x842 then x843 else false) fun (x844 : Bool) =>
  Let (a0.Asleep == b1.Asleep) fun (x845 : Bool) =>
  Let (a0.IdleSteps == b1.IdleSteps) fun (x846 : Bool) =>
  Let (bif x845 then x846 else false) fun (x847 : Bool) =>
  Let (bif x828 then x831 else false) fun (x848 : Bool) =>
  Let (bif x848 then x834 else false) fun (x849 : Bool) =>
  Let (bif x849 then x839 else false) fun (x850 : Bool) =>
  Let (bif x850 then x844 else false) fun (x851 : Bool) =>
  Let (bif x851 then x847 else false) fun (x852 : Bool) => some x852)
  fuel (0 : Int)

noncomputable def caromlaw23_example  : Option Bool :=
  Rx.Bind (caromlaw23_disk (5 : Int)) fun (r853 : Body) =>
  Rx.Bind (body_WorldCenter r853) fun (r854 : Vec) =>
  Rx.Bind (body_ApplyImpulse r853 r854 { X := (205888 : Int), Y := (0 : Int) : Vec }) fun (r855 : Body) =>
  Rx.Bind (body_Bounds r853) fun (r856 : AABB × Bool) =>
  Rx.Bind (body_Validate r853) fun (r857 : Int) =>
  Let (r857 == (0 : Int)) fun (x858 : Bool) =>
  Rx.Bind (if (x858 == true) = true then body_WorldCenter r853 else some { X := default, Y := default : Vec })
  fun (r859 : Vec) =>
  Let (decide (r859.X = (5 : Int)) && decide (r859.Y = (0 : Int))) fun (x860 : Bool) =>
  Let (bif x858 then x860 else false) fun (x861 : Bool) =>
  Let (decide (r855.Velocity.X > (65527 : Int))) fun (x862 : Bool) =>
  Let (bif x861 then x862 else false) fun (x863 : Bool) =>
  Let (decide (r855.Velocity.X < (65545 : Int))) fun (x864 : Bool) =>
  Let (bif x863 then x864 else false) fun (x865 : Bool) =>
  Let (r855.Velocity.Y == (0 : Int)) fun (x866 : Bool) =>
  Let (bif x865 then x866 else false) fun (x867 : Bool) =>
  Let (r855.AngularVelocity == (0 : Int)) fun (x868 : Bool) =>
  Let (bif x867 then x868 else false) fun (x869 : Bool) =>
  Let (bif x869 then r856.snd else false) fun (x870 : Bool) =>
  Let
  (decide (r856.fst.Min.X = (-65531 : Int)) && decide (r856.fst.Min.Y = (-65536 : Int)) &&
  (decide (r856.fst.Max.X = (65541 : Int)) && decide (r856.fst.Max.Y = (65536 : Int))))
  fun (x871 : Bool) =>
  Let (bif x870 then x871 else false) fun (x872 : Bool) =>
  Rx.Bind (if (x872 == true) = true then body_FixtureAt r853 { X := (5 : Int), Y := (0 : Int) : Vec } else some default)
  fun (r873 : Int) =>
  Let (r873 == (0 : Int)) fun (x874 : Bool) =>
  Let (bif x872 then x874 else false) fun (x875 : Bool) =>
  Rx.Bind
  (if (x875 == true) = true then body_Clone r853
  else
  some
  { ID := default, Kind := default, Transform := { Position := { X := default, Y := default : Vec }, Angle := default : Transform }, Velocity := { X := default, Y := default : Vec }, AngularVelocity := default, Force := { X := default, Y := default : Vec }, Torque := default, LinearDamping := default, AngularDamping := default, GravityScale := default, Bullet := default, FixedRotation := default, NoSleep := default, Asleep := default, IdleSteps := default, Fixtures := default : Body })
  fun (r876 : Body) =>
  Rx.Bind (if (x875 == true) = true then body_Equal r853 r876 else some default) fun (r877 : Bool) =>
  Let (bif x875 then r877 else false) fun (x878 : Bool) =>
  Rx.Bind
  (if (x878 == true) = true then
  body_Validate
  { ID := (0 : Int), Kind := (0 : Int), Transform := { Position := { X := (0 : Int), Y := (0 : Int) : Vec }, Angle := (0 : Int) : Transform }, Velocity := { X := (0 : Int), Y := (0 : Int) : Vec }, AngularVelocity := (0 : Int), Force := { X := (0 : Int), Y := (0 : Int) : Vec }, Torque := (0 : Int), LinearDamping := (0 : Int), AngularDamping := (0 : Int), GravityScale := (0 : Int), Bullet := false, FixedRotation := false, NoSleep := false, Asleep := false, IdleSteps := (0 : Int), Fixtures := [] : Body }
  else some default)
  fun (r879 : Int) =>
  Let (r879 == (10 : Int)) fun (x880 : Bool) => Let (bif x878 then x880 else false) fun (x881 : Bool) => some x881

noncomputable def caromref12_EqualVecs (a0 : (List Vec)) (b1 : (List Vec)) : Option Bool :=
  Let (↑a0.length : Int) fun (x882 : Int) =>
  Let (↑b1.length : Int) fun (x883 : Int) =>
  Let (x882 != x883) fun (x884 : Bool) =>
  if x884 = true then some false
  else
  LOOP
  (fun (rec885 : Int → Option Bool) (s886 : Int) =>
  Let (↑a0.length : Int) fun (x887 : Int) =>
  Let (decide (s886 < x887)) fun (x888 : Bool) =>
  if x888 = true then
  Chk ((0 : Int) ≤ s886 ∧ s886 < (↑a0.length : Int))
  (Let (ix a0 s886) fun (x889 : Vec) =>
  Chk ((0 : Int) ≤ s886 ∧ s886 < (↑b1.length : Int))
  (Let (ix b1 s886) fun (x890 : Vec) =>
  Let (!(decide (x889.X = x890.X) && decide (x889.Y = x890.Y))) fun (x891 : Bool) =>
  if x891 = true then some false else Let (IntKind.i64.wrap (s886 + (1 : Int))) fun (x892 : Int) => rec885 x892))
  else some true)
  fuel (0 : Int)

noncomputable def caromref12_Equal (a0 : Shape) (b1 : Shape) : Option Bool :=
  Let (a0.Kind == b1.Kind) fun (x893 : Bool) =>
  Let (a0.Radius == b1.Radius) fun (x894 : Bool) =>
  Let (bif x893 then x894 else false) fun (x895 : Bool) =>
  Rx.Bind (if (x895 == true) = true then caromref12_EqualVecs a0.Vertices b1.Vertices else some default)
  fun (r896 : Bool) => Let (bif x895 then r896 else false) fun (x897 : Bool) => some x897

noncomputable def caromref23_EqualFixture (a0 : Fixture) (b1 : Fixture) : Option Bool :=
  Rx.Bind (caromref12_Equal a0.Shape b1.Shape) fun (r898 : Bool) =>
  Let (a0.Density == b1.Density) fun (x899 : Bool) =>
  Let (bif r898 then x899 else false) fun (x900 : Bool) =>
  Let (a0.Friction == b1.Friction) fun (x901 : Bool) =>
  Let (bif x900 then x901 else false) fun (x902 : Bool) =>
  Let (a0.Restitution == b1.Restitution) fun (x903 : Bool) =>
  Let (bif x902 then x903 else false) fun (x904 : Bool) =>
  Let (a0.Sensor == b1.Sensor) fun (x905 : Bool) =>
  Let (bif x904 then x905 else false) fun (x906 : Bool) =>
  Let (a0.Category == b1.Category) fun (x907 : Bool) =>
  Let (bif x906 then x907 else false) fun (x908 : Bool) =>
  Let (a0.Mask == b1.Mask) fun (x909 : Bool) =>
  Let (bif x908 then x909 else false) fun (x910 : Bool) =>
  Let (a0.Group == b1.Group) fun (x911 : Bool) => Let (bif x910 then x911 else false) fun (x912 : Bool) => some x912

noncomputable def caromref23_Equal (a0 : Body) (b1 : Body) : Option Bool :=
  Let (↑a0.Fixtures.length : Int) fun (x913 : Int) =>
  Let (↑b1.Fixtures.length : Int) fun (x914 : Int) =>
  Let (x913 != x914) fun (x915 : Bool) =>
  if x915 = true then some false
  else
  LOOP
  (fun (rec916 : Int → Option Bool) (s917 : Int) =>
  Let (↑a0.Fixtures.length : Int) fun (x918 : Int) =>
  Let (decide (s917 < x918)) fun (x919 : Bool) =>
  Let (↑b1.Fixtures.length : Int) fun (x920 : Int) =>
  Let (decide (s917 < x920)) fun (x921 : Bool) =>
  Let (bif x919 then x921 else false) fun (x922 : Bool) =>
  if x922 = true then
  Chk ((0 : Int) ≤ s917 ∧ s917 < (↑a0.Fixtures.length : Int))
  (Let (ix a0.Fixtures s917) fun (x923 : Fixture) =>
  Chk ((0 : Int) ≤ s917 ∧ s917 < (↑b1.Fixtures.length : Int))
  (Let (ix b1.Fixtures s917) fun (x924 : Fixture) =>
  Rx.Bind (caromref23_EqualFixture x923 x924) fun (r925 : Bool) =>
  Let (!r925) fun (x926 : Bool) =>
  if x926 = true then some false else Let (IntKind.i64.wrap (s917 + (1 : Int))) fun (x927 : Int) => rec916 x927))
  else
  Let (a0.ID != b1.ID) fun (x928 : Bool) =>
  Let (a0.Kind != b1.Kind) fun (x929 : Bool) =>
  Let (bif x928 then true else x929) fun (x930 : Bool) =>
  Let
  (!(decide (a0.Transform.Position.X = b1.Transform.Position.X) &&
  decide (a0.Transform.Position.Y = b1.Transform.Position.Y) &&
  decide (a0.Transform.Angle = b1.Transform.Angle)))
  fun (x931 : Bool) =>
  Let (bif x930 then true else x931) fun (x932 : Bool) =>
  Let (!(decide (a0.Velocity.X = b1.Velocity.X) && decide (a0.Velocity.Y = b1.Velocity.Y))) fun (x933 : Bool) =>
  Let (bif x932 then true else x933) fun (x934 : Bool) =>
  Let (a0.AngularVelocity != b1.AngularVelocity) fun (x935 : Bool) =>
  Let (bif x934 then true else x935) fun (x936 : Bool) =>
  Let (!(decide (a0.Force.X = b1.Force.X) && decide (a0.Force.Y = b1.Force.Y))) fun (x937 : Bool) =>
  Let (bif x936 then true else x937) fun (x938 : Bool) =>
  Let (a0.Torque != b1.Torque) fun (x939 : Bool) =>
  Let (bif x938 then true else x939) fun (x940 : Bool) =>
  if x940 = true then some false
  else
  Let (a0.LinearDamping == b1.LinearDamping) fun (x941 : Bool) =>
  Let (a0.AngularDamping == b1.AngularDamping) fun (x942 : Bool) =>
  Let (bif x941 then x942 else false) fun (x943 : Bool) =>
  Let (a0.GravityScale == b1.GravityScale) fun (x944 : Bool) =>
  Let (bif x943 then x944 else false) fun (x945 : Bool) =>
  Let (a0.Bullet == b1.Bullet) fun (x946 : Bool) =>
  Let (bif x945 then x946 else false) fun (x947 : Bool) =>
  Let (a0.FixedRotation == b1.FixedRotation) fun (x948 : Bool) =>
  Let (bif x947 then x948 else false) fun (x949 : Bool) =>
  Let (a0.NoSleep == b1.NoSleep) fun (x950 : Bool) =>
  Let (bif x949 then x950 else false) fun (x951 : Bool) =>
  Let (a0.Asleep == b1.Asleep) fun (x952 : Bool) =>
  Let (bif x951 then x952 else false) fun (x953 : Bool) =>
  Let (a0.IdleSteps == b1.IdleSteps) fun (x954 : Bool) =>
  Let (bif x953 then x954 else false) fun (x955 : Bool) => some x955)
  fuel (0 : Int)

noncomputable def caromlaw23_BodyCloneEqual (b0 : Body) (c1 : Body) (k2 : UInt8) : Option Bool :=
  Rx.Bind (caromref23_Small b0) fun (r956 : Bool) =>
  Let (!r956) fun (x957 : Bool) =>
  Rx.Bind (if (x957 == false) = true then caromref23_Small c1 else some default) fun (r958 : Bool) =>
  Let (!r958) fun (x959 : Bool) =>
  Let (bif x957 then true else x959) fun (x960 : Bool) =>
  if x960 = true then Rx.Bind caromlaw23_example fun (r961 : Bool) => some r961
  else
  Rx.Bind (body_Clone b0) fun (r962 : Body) =>
  Rx.Bind (body_Clone b0) fun (r963 : Body) =>
  Rx.Bind (body_Equal b0 r962) fun (r964 : Bool) =>
  Let (!r964) fun (x965 : Bool) =>
  Rx.Bind (if (x965 == false) = true then body_Equal b0 c1 else some default) fun (r966 : Bool) =>
  Rx.Bind (if (x965 == false) = true then caromref23_Equal b0 c1 else some default) fun (r967 : Bool) =>
  Let (r966 != r967) fun (x968 : Bool) =>
  Let (bif x965 then true else x968) fun (x969 : Bool) =>
  Rx.Bind (if (x969 == false) = true then body_Equal c1 b0 else some default) fun (r970 : Bool) =>
  Rx.Bind (if (x969 == false) = true then body_Equal b0 c1 else some default) fun (r971 : Bool) =>
  Let (r970 != r971) fun (x972 : Bool) =>
  Let (bif x969 then true else x972) fun (x973 : Bool) => if x973 = true then some false else none

noncomputable def body_ApplyAngularImpulse (b0 : Body) (impulse1 : Int) : Option Body :=
  Let (b0.Kind != (3 : Int)) fun (x974 : Bool) =>
  if x974 = true then some b0
  else
  Rx.Bind (body_SolverBody b0) fun (r975 : SolverBody) =>
  Rx.Bind (fixed_Mul impulse1 r975.InvInertia) fun (r976 : Int) =>
  Rx.Bind (fixed_Add b0.AngularVelocity r976) fun (r977 : Int) =>
  Rx.Bind
  (body_awake
  { ID := b0.ID, Kind := b0.Kind, Transform := b0.Transform, Velocity := b0.Velocity, AngularVelocity := r977, Force := b0.Force, Torque := b0.Torque, LinearDamping := b0.LinearDamping, AngularDamping := b0.AngularDamping, GravityScale := b0.GravityScale, Bullet := b0.Bullet, FixedRotation := b0.FixedRotation, NoSleep := b0.NoSleep, Asleep := b0.Asleep, IdleSteps := b0.IdleSteps, Fixtures := b0.Fixtures : Body })
  fun (r978 : Body) => some r978

noncomputable def caromlaw23_BodyImpulseValid (b0 : Body) (point1 : Vec) (impulse2 : Vec) (angular3 : Int) : Option Bool :=
  Rx.Bind (caromref23_Small b0) fun (r979 : Bool) =>
  Let (!r979) fun (x980 : Bool) =>
  if x980 = true then Rx.Bind caromlaw23_example fun (r981 : Bool) => some r981
  else
  Rx.Bind (body_ApplyImpulse b0 point1 impulse2) fun (r982 : Body) =>
  Rx.Bind (body_ApplyAngularImpulse b0 angular3) fun (r983 : Body) =>
  Let (b0.Kind != (3 : Int)) fun (x984 : Bool) =>
  Rx.Bind (if (x984 == true) = true then body_Equal r982 b0 else some default) fun (r985 : Bool) =>
  Let (!r985) fun (x986 : Bool) =>
  Rx.Bind (if (x984 == true && x986 == false) = true then body_Equal r983 b0 else some default) fun (r987 : Bool) =>
  Let (!r987) fun (x988 : Bool) =>
  Let (bif x986 then true else x988) fun (x989 : Bool) =>
  Let (bif x984 then x989 else false) fun (x990 : Bool) =>
  if x990 = true then some false
  else
  Rx.Bind (body_Validate b0) fun (r991 : Int) =>
  Let (r991 != (0 : Int)) fun (x992 : Bool) =>
  if x992 = true then Rx.Bind caromlaw23_example fun (r993 : Bool) => some r993
  else
  Rx.Bind (body_Validate r982) fun (r994 : Int) =>
  Let (r994 == (0 : Int)) fun (x995 : Bool) =>
  Rx.Bind (if (x995 == true) = true then body_Validate r983 else some default) fun (r996 : Int) =>
  Let (r996 == (0 : Int)) fun (x997 : Bool) =>
  Let (bif x995 then x997 else false) fun (x998 : Bool) =>
  Rx.Bind
  (if (x998 == true) = true then body_ClampVelocity b0
  else
  some
  { ID := default, Kind := default, Transform := { Position := { X := default, Y := default : Vec }, Angle := default : Transform }, Velocity := { X := default, Y := default : Vec }, AngularVelocity := default, Force := { X := default, Y := default : Vec }, Torque := default, LinearDamping := default, AngularDamping := default, GravityScale := default, Bullet := default, FixedRotation := default, NoSleep := default, Asleep := default, IdleSteps := default, Fixtures := default : Body })
  fun (r999 : Body) =>
  Rx.Bind (if (x998 == true) = true then body_Equal r999 b0 else some default) fun (r1000 : Bool) =>
  Let (bif x998 then r1000 else false) fun (x1001 : Bool) =>
  Let
  (decide (r982.Transform.Position.X = b0.Transform.Position.X) &&
  decide (r982.Transform.Position.Y = b0.Transform.Position.Y) &&
  decide (r982.Transform.Angle = b0.Transform.Angle))
  fun (x1002 : Bool) =>
  Let (bif x1001 then x1002 else false) fun (x1003 : Bool) =>
  Let (!r982.Asleep) fun (x1004 : Bool) =>
  Let (bif x1003 then x1004 else false) fun (x1005 : Bool) =>
  Let (!r983.Asleep) fun (x1006 : Bool) =>
  Let (bif x1005 then x1006 else false) fun (x1007 : Bool) =>
  Rx.Bind (if (x1007 == true) = true then caromlaw23_example else some default) fun (r1008 : Bool) =>
  Let (bif x1007 then r1008 else false) fun (x1009 : Bool) => some x1009

noncomputable def caromlaw23_unclamped (b0 : Body) : Option Bool :=
  Let (decide (b0.Velocity.X > (-16777216 : Int))) fun (x1010 : Bool) =>
  Let (decide (b0.Velocity.X < (16777216 : Int))) fun (x1011 : Bool) =>
  Let (bif x1010 then x1011 else false) fun (x1012 : Bool) =>
  Let (decide (b0.Velocity.Y > (-16777216 : Int))) fun (x1013 : Bool) =>
  Let (bif x1012 then x1013 else false) fun (x1014 : Bool) =>
  Let (decide (b0.Velocity.Y < (16777216 : Int))) fun (x1015 : Bool) =>
  Let (bif x1014 then x1015 else false) fun (x1016 : Bool) =>
  Let (decide (b0.AngularVelocity > (-4194304 : Int))) fun (x1017 : Bool) =>
  Let (bif x1016 then x1017 else false) fun (x1018 : Bool) =>
  Let (decide (b0.AngularVelocity < (4194304 : Int))) fun (x1019 : Bool) =>
  Let (bif x1018 then x1019 else false) fun (x1020 : Bool) => some x1020

noncomputable def caromlaw23_BodyOppositeImpulse (b0 : Body) (point1 : Vec) (impulse2 : Vec) (angular3 : Int) : Option Bool :=
  Rx.Bind (caromref23_Small b0) fun (r1021 : Bool) =>
  Let (!r1021) fun (x1022 : Bool) =>
  Rx.Bind (if (x1022 == false) = true then body_Validate b0 else some default) fun (r1023 : Int) =>
  Let (r1023 != (0 : Int)) fun (x1024 : Bool) =>
  Let (bif x1022 then true else x1024) fun (x1025 : Bool) =>
  Rx.Bind (if (x1025 == false) = true then caromlaw23_unclamped b0 else some default) fun (r1026 : Bool) =>
  Let (!r1026) fun (x1027 : Bool) =>
  Let (bif x1025 then true else x1027) fun (x1028 : Bool) =>
  Let (decide (impulse2.X < (-536870911 : Int))) fun (x1029 : Bool) =>
  Let (bif x1028 then true else x1029) fun (x1030 : Bool) =>
  Let (decide (impulse2.X > (536870911 : Int))) fun (x1031 : Bool) =>
  Let (bif x1030 then true else x1031) fun (x1032 : Bool) =>
  Let (decide (impulse2.Y < (-536870911 : Int))) fun (x1033 : Bool) =>
  Let (bif x1032 then true else x1033) fun (x1034 : Bool) =>
  Let (decide (impulse2.Y > (536870911 : Int))) fun (x1035 : Bool) =>
  Let (bif x1034 then true else x1035) fun (x1036 : Bool) =>
  Let (decide (angular3 < (-536870911 : Int))) fun (x1037 : Bool) =>
  Let (bif x1036 then true else x1037) fun (x1038 : Bool) =>
  Let (decide (angular3 > (536870911 : Int))) fun (x1039 : Bool) =>
  Let (bif x1038 then true else x1039) fun (x1040 : Bool) =>
  if x1040 = true then Rx.Bind caromlaw23_example fun (r1041 : Bool) => some r1041
  else
  Rx.Bind (body_ApplyImpulse b0 point1 impulse2) fun (r1042 : Body) =>
  Rx.Bind (body_ApplyAngularImpulse b0 angular3) fun (r1043 : Body) =>
  Join
  (fun (v1044 : PUnit) =>
  Join (fun (v1045 : PUnit) => Rx.Bind caromlaw23_example fun (r1046 : Bool) => some r1046)
  fun (j1047 : PUnit → Option Bool) =>
  Rx.Bind (caromlaw23_unclamped r1043) fun (r1048 : Bool) =>
  if r1048 = true then
  Let (IntKind.i64.wrap ((0 : Int) - angular3)) fun (x1049 : Int) =>
  Rx.Bind (body_ApplyAngularImpulse r1043 x1049) fun (r1050 : Body) =>
  Let (!(decide (r1050.Velocity.X = b0.Velocity.X) && decide (r1050.Velocity.Y = b0.Velocity.Y))) fun (x1051 : Bool) =>
  Let (r1050.AngularVelocity != b0.AngularVelocity) fun (x1052 : Bool) =>
  Let (bif x1051 then true else x1052) fun (x1053 : Bool) => if x1053 = true then some false else j1047 ()
  else j1047 ())
  fun (j1054 : PUnit → Option Bool) =>
  Rx.Bind (caromlaw23_unclamped r1042) fun (r1055 : Bool) =>
  if r1055 = true then
  Let (IntKind.i64.wrap ((0 : Int) - impulse2.X)) fun (x1056 : Int) =>
  Let (IntKind.i64.wrap ((0 : Int) - impulse2.Y)) fun (x1057 : Int) =>
  Rx.Bind (body_ApplyImpulse r1042 point1 { X := x1056, Y := x1057 : Vec }) fun (r1058 : Body) =>
  Let (!(decide (r1058.Velocity.X = b0.Velocity.X) && decide (r1058.Velocity.Y = b0.Velocity.Y))) fun (x1059 : Bool) =>
  Let (r1058.AngularVelocity != b0.AngularVelocity) fun (x1060 : Bool) =>
  Let (bif x1059 then true else x1060) fun (x1061 : Bool) => if x1061 = true then some false else j1054 ()
  else j1054 ()

noncomputable def aabb_Expand (b0 : AABB) (margin1 : Int) : Option AABB :=
  Rx.Bind (aabb_Valid b0) fun (r1062 : Bool) =>
  Let (!r1062) fun (x1063 : Bool) =>
  if x1063 = true then
  some { Min := { X := (0 : Int), Y := (0 : Int) : Vec }, Max := { X := (0 : Int), Y := (0 : Int) : Vec } : AABB }
  else
  Rx.Bind (fixed_Sub b0.Min.X margin1) fun (r1064 : Int) =>
  Rx.Bind (fixed_Sub b0.Min.Y margin1) fun (r1065 : Int) =>
  Rx.Bind (fixed_Add b0.Max.X margin1) fun (r1066 : Int) =>
  Rx.Bind (fixed_Add b0.Max.Y margin1) fun (r1067 : Int) =>
  Rx.Bind (aabb_Valid { Min := { X := r1064, Y := r1065 : Vec }, Max := { X := r1066, Y := r1067 : Vec } : AABB })
  fun (r1068 : Bool) =>
  Let (!r1068) fun (x1069 : Bool) =>
  if x1069 = true then
  some { Min := { X := (0 : Int), Y := (0 : Int) : Vec }, Max := { X := (0 : Int), Y := (0 : Int) : Vec } : AABB }
  else some { Min := { X := r1064, Y := r1065 : Vec }, Max := { X := r1066, Y := r1067 : Vec } : AABB }

noncomputable def aabb_ContainsPoint (b0 : AABB) (v1 : Vec) : Option Bool :=
  Rx.Bind (aabb_saturate v1) fun (r1070 : Vec) =>
  Rx.Bind (aabb_Valid b0) fun (r1071 : Bool) =>
  Let (decide (b0.Min.X ≤ r1070.X)) fun (x1072 : Bool) =>
  Let (bif r1071 then x1072 else false) fun (x1073 : Bool) =>
  Let (decide (r1070.X ≤ b0.Max.X)) fun (x1074 : Bool) =>
  Let (bif x1073 then x1074 else false) fun (x1075 : Bool) =>
  Let (decide (b0.Min.Y ≤ r1070.Y)) fun (x1076 : Bool) =>
  Let (bif x1075 then x1076 else false) fun (x1077 : Bool) =>
  Let (decide (r1070.Y ≤ b0.Max.Y)) fun (x1078 : Bool) =>
  Let (bif x1077 then x1078 else false) fun (x1079 : Bool) => some x1079

noncomputable def caromlaw23_BodyFixtureAt (b0 : Body) (point1 : Vec) : Option Bool :=
  Rx.Bind (caromref23_Small b0) fun (r1080 : Bool) =>
  Let (!r1080) fun (x1081 : Bool) =>
  Rx.Bind (if (x1081 == false) = true then body_Validate b0 else some default) fun (r1082 : Int) =>
  Let (r1082 != (0 : Int)) fun (x1083 : Bool) =>
  Let (bif x1081 then true else x1083) fun (x1084 : Bool) =>
  if x1084 = true then Rx.Bind caromlaw23_example fun (r1085 : Bool) => some r1085
  else
  Rx.Bind (body_FixtureAt b0 point1) fun (r1086 : Int) =>
  Rx.Bind (body_Bounds b0) fun (r1087 : AABB × Bool) =>
  Let (↑b0.Fixtures.length : Int) fun (x1088 : Int) =>
  Let (decide (x1088 > (0 : Int))) fun (x1089 : Bool) =>
  Let (r1087.snd != x1089) fun (x1090 : Bool) =>
  Let (decide (r1086 < (-1 : Int))) fun (x1091 : Bool) =>
  Let (bif x1090 then true else x1091) fun (x1092 : Bool) =>
  Let (↑b0.Fixtures.length : Int) fun (x1093 : Int) =>
  Let (decide (r1086 ≥ x1093)) fun (x1094 : Bool) =>
  Let (bif x1092 then true else x1094) fun (x1095 : Bool) =>
  if x1095 = true then some false
  else
  LOOP
  (fun (rec1096 : Int → Option Bool) (s1097 : Int) =>
  Let (↑b0.Fixtures.length : Int) fun (x1098 : Int) =>
  Let (decide (s1097 < x1098)) fun (x1099 : Bool) =>
  if x1099 = true then
  Chk ((0 : Int) ≤ s1097 ∧ s1097 < (↑b0.Fixtures.length : Int))
  (Let (ix b0.Fixtures s1097) fun (x1100 : Fixture) =>
  Rx.Bind (shape_ContainsPoint x1100.Shape b0.Transform point1) fun (r1101 : Bool) =>
  Let (decide (r1086 < (0 : Int))) fun (x1102 : Bool) =>
  Let (decide (s1097 < r1086)) fun (x1103 : Bool) =>
  Let (bif x1102 then true else x1103) fun (x1104 : Bool) =>
  Let (bif r1101 then x1104 else false) fun (x1105 : Bool) =>
  Let (s1097 == r1086) fun (x1106 : Bool) =>
  Let (!r1101) fun (x1107 : Bool) =>
  Let (bif x1106 then x1107 else false) fun (x1108 : Bool) =>
  Let (bif x1105 then true else x1108) fun (x1109 : Bool) =>
  if x1109 = true then some false else Let (IntKind.i64.wrap (s1097 + (1 : Int))) fun (x1110 : Int) => rec1096 x1110)
  else
  Let (decide (r1086 < (0 : Int))) fun (x1111 : Bool) =>
  Rx.Bind
  (if (x1111 == false) = true then aabb_Expand r1087.fst (2 : Int)
  else some { Min := { X := default, Y := default : Vec }, Max := { X := default, Y := default : Vec } : AABB })
  fun (r1112 : AABB) =>
  Rx.Bind (if (x1111 == false) = true then aabb_ContainsPoint r1112 point1 else some default) fun (r1113 : Bool) =>
  Let (bif x1111 then true else r1113) fun (x1114 : Bool) =>
  Rx.Bind (if (x1114 == true) = true then caromlaw23_example else some default) fun (r1115 : Bool) =>
  Let (bif x1114 then r1115 else false) fun (x1116 : Bool) => some x1116)
  fuel (0 : Int)

end GoForm
