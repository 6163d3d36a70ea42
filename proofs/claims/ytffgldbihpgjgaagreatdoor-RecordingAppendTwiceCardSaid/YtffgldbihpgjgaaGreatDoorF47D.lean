/- The functions' plain forms. Printed by go3.py. No conditions. -/
import Derived.Test.YtffgldbihpgjgaaGreatDoorF47T
import Derived.Test.YtffgldbihpgjgaaGreatDoorF47E
set_option linter.all false
set_option maxRecDepth 100000
open Go Go.Rx Go.Proofs Go.RowKit
namespace GoForm

noncomputable def caromref47_SmallInputs (inputs0 : (List Input)) : Option Bool :=
  LOOP
  (fun (rec1 : Int → Option Bool) (s2 : Int) =>
  Let (↑inputs0.length : Int) fun (x3 : Int) =>
  Let (decide (s2 < x3)) fun (x4 : Bool) =>
  Let (decide (s2 < (40 : Int))) fun (x5 : Bool) =>
  Let (bif x4 then x5 else false) fun (x6 : Bool) =>
  if x6 = true then
  Chk ((0 : Int) ≤ s2 ∧ s2 < (↑inputs0.length : Int))
  (Let (ix inputs0 s2) fun (x7 : Input) =>
  LOOP
  (fun (rec8 : Int → Option Bool) (s9 : Int) =>
  Let (↑x7.Body.Fixtures.length : Int) fun (x10 : Int) =>
  Let (decide (s9 < x10)) fun (x11 : Bool) =>
  Let (decide (s9 < (6 : Int))) fun (x12 : Bool) =>
  Let (bif x11 then x12 else false) fun (x13 : Bool) =>
  if x13 = true then
  Chk ((0 : Int) ≤ s9 ∧ s9 < (↑x7.Body.Fixtures.length : Int))
  (Let (ix x7.Body.Fixtures s9) fun (x14 : Fixture) =>
  Let (↑x14.Shape.Vertices.length : Int) fun (x15 : Int) =>
  Let (decide (x15 > (12 : Int))) fun (x16 : Bool) =>
  if x16 = true then some false else Let (IntKind.i64.wrap (s9 + (1 : Int))) fun (x17 : Int) => rec8 x17)
  else
  Let (↑x7.Body.Fixtures.length : Int) fun (x18 : Int) =>
  Let (decide (x18 > (6 : Int))) fun (x19 : Bool) =>
  if x19 = true then some false else Let (IntKind.i64.wrap (s2 + (1 : Int))) fun (x20 : Int) => rec1 x20)
  fuel (0 : Int))
  else Let (↑inputs0.length : Int) fun (x21 : Int) => Let (decide (x21 ≤ (40 : Int))) fun (x22 : Bool) => some x22)
  fuel (0 : Int)

noncomputable def caromref47_Small (r0 : (List (List Input))) : Option Bool :=
  LOOP
  (fun (rec23 : Int × Int → Option Bool) (s24 : Int × Int) =>
  Let (↑r0.length : Int) fun (x25 : Int) =>
  Let (decide (s24.snd < x25)) fun (x26 : Bool) =>
  Let (decide (s24.snd < (5000 : Int))) fun (x27 : Bool) =>
  Let (bif x26 then x27 else false) fun (x28 : Bool) =>
  if x28 = true then
  Chk ((0 : Int) ≤ s24.snd ∧ s24.snd < (↑r0.length : Int))
  (Let (ix r0 s24.snd) fun (x29 : List Input) =>
  Let (↑x29.length : Int) fun (x30 : Int) =>
  Let (IntKind.i64.wrap (s24.fst + x30)) fun (x31 : Int) =>
  Let (decide (x31 > (100 : Int))) fun (x32 : Bool) =>
  Chk ((x32 == false) = true → (0 : Int) ≤ s24.snd ∧ s24.snd < (↑r0.length : Int))
  (Let (ix r0 s24.snd) fun (x33 : List Input) =>
  Rx.Bind (if (x32 == false) = true then caromref47_SmallInputs x33 else some default) fun (r34 : Bool) =>
  Let (!r34) fun (x35 : Bool) =>
  Let (bif x32 then true else x35) fun (x36 : Bool) =>
  if x36 = true then some false else Let (IntKind.i64.wrap (s24.snd + (1 : Int))) fun (x37 : Int) => rec23 (x31, x37)))
  else Let (↑r0.length : Int) fun (x38 : Int) => Let (decide (x38 ≤ (5000 : Int))) fun (x39 : Bool) => some x39)
  fuel ((0 : Int), (0 : Int))

noncomputable def caromlaw47_impulse  : Option Input :=
  some
  { Kind := (1 : Int), ID := (3 : Int), Vec := { X := (65536 : Int), Y := (0 : Int) : Vec }, Value := (0 : Int), Body := { ID := (0 : Int), Kind := (0 : Int), Transform := { Position := { X := (0 : Int), Y := (0 : Int) : Vec }, Angle := (0 : Int) : Transform }, Velocity := { X := (0 : Int), Y := (0 : Int) : Vec }, AngularVelocity := (0 : Int), Force := { X := (0 : Int), Y := (0 : Int) : Vec }, Torque := (0 : Int), LinearDamping := (0 : Int), AngularDamping := (0 : Int), GravityScale := (0 : Int), Bullet := false, FixedRotation := false, NoSleep := false, Asleep := false, IdleSteps := (0 : Int), Fixtures := [] : Body }, Joint := { ID := (0 : Int), Kind := (0 : Int), BodyA := (0 : Int), BodyB := (0 : Int), AnchorA := { X := (0 : Int), Y := (0 : Int) : Vec }, AnchorB := { X := (0 : Int), Y := (0 : Int) : Vec }, Axis := { X := (0 : Int), Y := (0 : Int) : Vec }, ReferenceAngle := (0 : Int), EnableLimit := false, Lower := (0 : Int), Upper := (0 : Int), EnableMotor := false, MotorSpeed := (0 : Int), MaxForce := (0 : Int), Softness := (0 : Int), BreakForce := (0 : Int), CollideConnected := false, Impulses := ((0 : Int), (0 : Int), (0 : Int), (0 : Int)) : Joint } : Input }

noncomputable def input_UsedFields (k0 : Int) : Option (Bool × Bool × Bool) :=
  Join
  (fun (v40 : Bool) =>
  if v40 = true then some (true, true, false)
  else
  Join
  (fun (v41 : Bool) =>
  if v41 = true then some (true, false, true)
  else
  Join
  (fun (v42 : Bool) =>
  if v42 = true then some (true, true, true)
  else
  Join (fun (v43 : Bool) => if v43 = true then some (true, false, false) else some (false, false, false))
  fun (j44 : Bool → Option (Bool × Bool × Bool)) =>
  Let (k0 == (6 : Int)) fun (x45 : Bool) =>
  if x45 = true then j44 x45
  else
  Let (k0 == (10 : Int)) fun (x46 : Bool) =>
  if x46 = true then j44 x46 else Let (k0 == (12 : Int)) fun (x47 : Bool) => j44 x47)
  fun (j48 : Bool → Option (Bool × Bool × Bool)) =>
  Let (k0 == (4 : Int)) fun (x49 : Bool) =>
  if x49 = true then j48 x49 else Let (k0 == (5 : Int)) fun (x50 : Bool) => j48 x50)
  fun (j51 : Bool → Option (Bool × Bool × Bool)) =>
  Let (k0 == (3 : Int)) fun (x52 : Bool) =>
  if x52 = true then j51 x52 else Let (k0 == (8 : Int)) fun (x53 : Bool) => j51 x53)
  fun (j54 : Bool → Option (Bool × Bool × Bool)) =>
  Let (k0 == (1 : Int)) fun (x55 : Bool) =>
  if x55 = true then j54 x55
  else
  Let (k0 == (2 : Int)) fun (x56 : Bool) =>
  if x56 = true then j54 x56 else Let (k0 == (7 : Int)) fun (x57 : Bool) => j54 x57

noncomputable def input_isSaturated (n0 : Int) : Option Bool :=
  Let (decide (n0 ≥ (-536870911 : Int))) fun (x58 : Bool) =>
  Let (decide (n0 ≤ (536870911 : Int))) fun (x59 : Bool) => Let (bif x58 then x59 else false) fun (x60 : Bool) => some x60

noncomputable def slices_Equal (s10 : (List Vec)) (s21 : (List Vec)) : Option Bool :=
  Let (↑s10.length : Int) fun (x61 : Int) =>
  Let (↑s21.length : Int) fun (x62 : Int) =>
  Let (x61 != x62) fun (x63 : Bool) =>
  if x63 = true then some false
  else
  Let (↑s10.length : Int) fun (x64 : Int) =>
  LOOP
  (fun (rec65 : Int → Option Bool) (s66 : Int) =>
  Let (decide (s66 < x64)) fun (x67 : Bool) =>
  if x67 = true then
  Chk ((0 : Int) ≤ s66 ∧ s66 < (↑s10.length : Int))
  (Let (ix s10 s66) fun (x68 : Vec) =>
  Chk ((0 : Int) ≤ s66 ∧ s66 < (↑s21.length : Int))
  (Let (ix s21 s66) fun (x69 : Vec) =>
  Let (!(decide (x68.X = x69.X) && decide (x68.Y = x69.Y))) fun (x70 : Bool) =>
  if x70 = true then some false else Let (IntKind.i64.wrap (s66 + (1 : Int))) fun (x71 : Int) => rec65 x71))
  else some true)
  fuel (0 : Int)

noncomputable def shape_Equal (a0 : Shape) (b1 : Shape) : Option Bool :=
  Let (a0.Kind == b1.Kind) fun (x72 : Bool) =>
  Let (a0.Radius == b1.Radius) fun (x73 : Bool) =>
  Let (bif x72 then x73 else false) fun (x74 : Bool) =>
  Rx.Bind (if (x74 == true) = true then slices_Equal a0.Vertices b1.Vertices else some default) fun (r75 : Bool) =>
  Let (bif x74 then r75 else false) fun (x76 : Bool) => some x76

noncomputable def body_equalFixtures (a0 : Fixture) (b1 : Fixture) : Option Bool :=
  Let (a0.Density == b1.Density) fun (x77 : Bool) =>
  Let (a0.Friction == b1.Friction) fun (x78 : Bool) =>
  Let (bif x77 then x78 else false) fun (x79 : Bool) =>
  Let (a0.Restitution == b1.Restitution) fun (x80 : Bool) =>
  Let (bif x79 then x80 else false) fun (x81 : Bool) =>
  Let (a0.Sensor == b1.Sensor) fun (x82 : Bool) =>
  Let (a0.Category == b1.Category) fun (x83 : Bool) =>
  Let (bif x82 then x83 else false) fun (x84 : Bool) =>
  Let (a0.Mask == b1.Mask) fun (x85 : Bool) =>
  Let (bif x84 then x85 else false) fun (x86 : Bool) =>
  Let (a0.Group == b1.Group) fun (x87 : Bool) =>
  Let (bif x86 then x87 else false) fun (x88 : Bool) =>
  Rx.Bind (shape_Equal a0.Shape b1.Shape) fun (r89 : Bool) =>
  Let (bif r89 then x81 else false) fun (x90 : Bool) => Let (bif x90 then x88 else false) fun (x91 : Bool) => some x91

noncomputable def body_Equal (a0 : Body) (b1 : Body) : Option Bool :=
  Let (↑a0.Fixtures.length : Int) fun (x92 : Int) =>
  Let (↑b1.Fixtures.length : Int) fun (x93 : Int) =>
  Let (x92 != x93) fun (x94 : Bool) =>
  if x94 = true then some false
  else
  Let (↑a0.Fixtures.length : Int) fun (x95 : Int) =>
  LOOP
  (fun (rec96 : Int → Option Bool) (s97 : Int) =>
  Let (decide (s97 < x95)) fun (x98 : Bool) =>
  if x98 = true then
  Chk ((0 : Int) ≤ s97 ∧ s97 < (↑a0.Fixtures.length : Int))
  (Let (ix a0.Fixtures s97) fun (x99 : Fixture) =>
  Chk ((0 : Int) ≤ s97 ∧ s97 < (↑b1.Fixtures.length : Int))
  (Let (ix b1.Fixtures s97) fun (x100 : Fixture) =>
  Rx.Bind (body_equalFixtures x99 x100) fun (r101 : Bool) =>
  Let (!r101) fun (x102 : Bool) =>
  if x102 = true then some false else Let (IntKind.i64.wrap (s97 + (1 : Int))) fun (x103 : Int) => rec96 x103))
  else
  Let (a0.ID == b1.ID) fun (x104 : Bool) =>
  Let (a0.Kind == b1.Kind) fun (x105 : Bool) =>
  Let (bif x104 then x105 else false) fun (x106 : Bool) =>
  Let
  (decide (a0.Transform.Position.X = b1.Transform.Position.X) &&
  decide (a0.Transform.Position.Y = b1.Transform.Position.Y) &&
  decide (a0.Transform.Angle = b1.Transform.Angle))
  fun (x107 : Bool) =>
  Let (bif x106 then x107 else false) fun (x108 : Bool) =>
  Let (decide (a0.Velocity.X = b1.Velocity.X) && decide (a0.Velocity.Y = b1.Velocity.Y)) fun (x109 : Bool) =>
  Let (a0.AngularVelocity == b1.AngularVelocity) fun (x110 : Bool) =>
  Let (bif x109 then x110 else false) fun (x111 : Bool) =>
  Let (decide (a0.Force.X = b1.Force.X) && decide (a0.Force.Y = b1.Force.Y)) fun (x112 : Bool) =>
  Let (a0.Torque == b1.Torque) fun (x113 : Bool) =>
  Let (bif x112 then x113 else false) fun (x114 : Bool) =>
  Let (a0.LinearDamping == b1.LinearDamping) fun (x115 : Bool) =>
  Let (a0.AngularDamping == b1.AngularDamping) fun (x116 : Bool) =>
  Let (bif x115 then x116 else false) fun (x117 : Bool) =>
  Let (a0.GravityScale == b1.GravityScale) fun (x118 : Bool) =>
  Let (bif x117 then x118 else false) fun (x119 : Bool) =>
  Let (a0.Bullet == b1.Bullet) fun (x120 : Bool) =>
  Let (a0.FixedRotation == b1.FixedRotation) fun (x121 : Bool) =>
  Let (bif x120 then x121 else false) fun (x122 : Bool) =>
  Let (a0.NoSleep == b1.NoSleep) fun (x123 : Bool) =>
  Let (bif x122 then x123 else false) fun (x124 : Bool) =>
  Let (a0.Asleep == b1.Asleep) fun (x125 : Bool) =>
  Let (a0.IdleSteps == b1.IdleSteps) fun (x126 : Bool) =>
  Let (bif x125 then x126 else false) fun (x127 : Bool) =>
  Let (bif x108 then x111 else false) fun (x128 : Bool) =>
  Let (bif x128 then x114 else false) fun (x129 : Bool) =>
  Let (bif x129 then x119 else false) fun (x130 : Bool) =>
  Let (bif x130 then x124 else false) fun (x131 : Bool) =>
  Let (bif x131 then x127 else false) fun (x132 : Bool) => some x132)
  fuel (0 : Int)

noncomputable def input_Validate (x0 : Input) : Option Int :=
  Let (decide (x0.Kind < (1 : Int))) fun (x133 : Bool) =>
  Let (decide (x0.Kind > (12 : Int))) fun (x134 : Bool) =>
  Let (bif x133 then true else x134) fun (x135 : Bool) =>
  if x135 = true then some (10 : Int)
  else
  Rx.Bind (input_UsedFields x0.Kind) fun (r136 : Bool × Bool × Bool) =>
  Join
  (fun (v137 : Bool) =>
  if v137 = true then some (6 : Int)
  else
  Join (fun (v138 : Bool) => if v138 = true then some (3 : Int) else some (0 : Int)) fun (j139 : Bool → Option Int) =>
  Let (!r136.fst) fun (x140 : Bool) =>
  Let (x0.ID != (0 : Int)) fun (x141 : Bool) =>
  Let (bif x140 then x141 else false) fun (x142 : Bool) =>
  if x142 = true then j139 x142
  else
  Let (!r136.snd.fst) fun (x143 : Bool) =>
  Let (!(decide (x0.Vec.X = (0 : Int)) && decide (x0.Vec.Y = (0 : Int)))) fun (x144 : Bool) =>
  Let (bif x143 then x144 else false) fun (x145 : Bool) =>
  if x145 = true then j139 x145
  else
  Let (!r136.snd.snd) fun (x146 : Bool) =>
  Let (x0.Value != (0 : Int)) fun (x147 : Bool) =>
  Let (bif x146 then x147 else false) fun (x148 : Bool) =>
  if x148 = true then j139 x148
  else
  Let (x0.Kind != (9 : Int)) fun (x149 : Bool) =>
  Rx.Bind
  (if (x149 == true) = true then
  body_Equal x0.Body
  { ID := (0 : Int), Kind := (0 : Int), Transform := { Position := { X := (0 : Int), Y := (0 : Int) : Vec }, Angle := (0 : Int) : Transform }, Velocity := { X := (0 : Int), Y := (0 : Int) : Vec }, AngularVelocity := (0 : Int), Force := { X := (0 : Int), Y := (0 : Int) : Vec }, Torque := (0 : Int), LinearDamping := (0 : Int), AngularDamping := (0 : Int), GravityScale := (0 : Int), Bullet := false, FixedRotation := false, NoSleep := false, Asleep := false, IdleSteps := (0 : Int), Fixtures := [] : Body }
  else some default)
  fun (r150 : Bool) =>
  Let (!r150) fun (x151 : Bool) =>
  Let (bif x149 then x151 else false) fun (x152 : Bool) =>
  if x152 = true then j139 x152
  else
  Let (x0.Kind != (11 : Int)) fun (x153 : Bool) =>
  Let
  (!(decide (x0.Joint.ID = (0 : Int)) &&
  (decide (x0.Joint.Kind = (0 : Int)) &&
  (decide (x0.Joint.BodyA = (0 : Int)) &&
  (decide (x0.Joint.BodyB = (0 : Int)) &&
  (decide (x0.Joint.AnchorA.X = (0 : Int)) && decide (x0.Joint.AnchorA.Y = (0 : Int)) &&
  (decide (x0.Joint.AnchorB.X = (0 : Int)) && decide (x0.Joint.AnchorB.Y = (0 : Int)) &&
  (decide (x0.Joint.Axis.X = (0 : Int)) && decide (x0.Joint.Axis.Y = (0 : Int)) &&
  (decide (x0.Joint.ReferenceAngle = (0 : Int)) &&
  (decide (x0.Joint.EnableLimit = false) &&
  (decide (x0.Joint.Lower = (0 : Int)) &&
  (decide (x0.Joint.Upper = (0 : Int)) &&
  (decide (x0.Joint.EnableMotor = false) &&
  (decide (x0.Joint.MotorSpeed = (0 : Int)) &&
  (decide (x0.Joint.MaxForce = (0 : Int)) &&
  (decide (x0.Joint.Softness = (0 : Int)) &&
  (decide (x0.Joint.BreakForce = (0 : Int)) &&
  (decide (x0.Joint.CollideConnected = false) &&
  (decide (x0.Joint.Impulses.fst = (0 : Int)) &&
  (decide (x0.Joint.Impulses.snd.fst = (0 : Int)) &&
  (decide (x0.Joint.Impulses.snd.snd.fst = (0 : Int)) &&
  decide (x0.Joint.Impulses.snd.snd.snd = (0 : Int)))))))))))))))))))))))
  fun (x154 : Bool) => Let (bif x153 then x154 else false) fun (x155 : Bool) => j139 x155)
  fun (j156 : Bool → Option Int) =>
  Let (decide (x0.ID < (1 : Int))) fun (x157 : Bool) =>
  Let (decide (x0.ID > (1099511627776 : Int))) fun (x158 : Bool) =>
  Let (bif x157 then true else x158) fun (x159 : Bool) =>
  Let (bif r136.fst then x159 else false) fun (x160 : Bool) =>
  if x160 = true then j156 x160
  else
  Rx.Bind (if (r136.snd.fst == true) = true then input_isSaturated x0.Vec.X else some default) fun (r161 : Bool) =>
  Let (!r161) fun (x162 : Bool) =>
  Rx.Bind (if (r136.snd.fst == true && x162 == false) = true then input_isSaturated x0.Vec.Y else some default)
  fun (r163 : Bool) =>
  Let (!r163) fun (x164 : Bool) =>
  Let (bif x162 then true else x164) fun (x165 : Bool) =>
  Let (bif r136.snd.fst then x165 else false) fun (x166 : Bool) =>
  if x166 = true then j156 x166
  else
  Rx.Bind (if (r136.snd.snd == true) = true then input_isSaturated x0.Value else some default) fun (r167 : Bool) =>
  Let (!r167) fun (x168 : Bool) => Let (bif r136.snd.snd then x168 else false) fun (x169 : Bool) => j156 x169

noncomputable def recording_allValid (inputs0 : (List Input)) : Option Bool :=
  Let (↑inputs0.length : Int) fun (x170 : Int) =>
  LOOP
  (fun (rec171 : Int → Option Bool) (s172 : Int) =>
  Let (decide (s172 < x170)) fun (x173 : Bool) =>
  if x173 = true then
  Chk ((0 : Int) ≤ s172 ∧ s172 < (↑inputs0.length : Int))
  (Let (ix inputs0 s172) fun (x174 : Input) =>
  Rx.Bind (input_Validate x174) fun (r175 : Int) =>
  Let (r175 != (0 : Int)) fun (x176 : Bool) =>
  if x176 = true then some false else Let (IntKind.i64.wrap (s172 + (1 : Int))) fun (x177 : Int) => rec171 x177)
  else some true)
  fuel (0 : Int)

noncomputable def recording_Validate (r0 : (List (List Input))) : Option Int :=
  Let (↑r0.length : Int) fun (x178 : Int) =>
  Let (decide (x178 > (4096 : Int))) fun (x179 : Bool) =>
  if x179 = true then some (11 : Int)
  else
  Let (↑r0.length : Int) fun (x180 : Int) =>
  LOOP
  (fun (rec181 : Int → Option Int) (s182 : Int) =>
  Let (decide (s182 < x180)) fun (x183 : Bool) =>
  if x183 = true then
  Chk ((0 : Int) ≤ s182 ∧ s182 < (↑r0.length : Int))
  (Let (ix r0 s182) fun (x184 : List Input) =>
  Let (↑x184.length : Int) fun (x185 : Int) =>
  Let (decide (x185 > (32 : Int))) fun (x186 : Bool) =>
  if x186 = true then some (11 : Int) else Let (IntKind.i64.wrap (s182 + (1 : Int))) fun (x187 : Int) => rec181 x187)
  else
  Let (↑r0.length : Int) fun (x188 : Int) =>
  LOOP
  (fun (rec189 : Int → Option Int) (s190 : Int) =>
  Let (decide (s190 < x188)) fun (x191 : Bool) =>
  if x191 = true then
  Chk ((0 : Int) ≤ s190 ∧ s190 < (↑r0.length : Int))
  (Let (ix r0 s190) fun (x192 : List Input) =>
  Rx.Bind (recording_allValid x192) fun (r193 : Bool) =>
  Let (!r193) fun (x194 : Bool) =>
  if x194 = true then some (20 : Int) else Let (IntKind.i64.wrap (s190 + (1 : Int))) fun (x195 : Int) => rec189 x195)
  else some (0 : Int))
  fuel (0 : Int))
  fuel (0 : Int)

noncomputable def slices_Clone (s0 : (List Vec)) : Option (List Vec) :=
  Rx.Alike (s0 = []) (some []) (Chk (s0.length * (16 : Nat) ≤ (140737488355328 : Nat)) (some s0))

noncomputable def shape_Clone (s0 : Shape) : Option Shape :=
  Rx.Bind (slices_Clone s0.Vertices) fun (r196 : List Vec) =>
  some { Kind := s0.Kind, Radius := s0.Radius, Vertices := r196 : Shape }

noncomputable def body_Clone (b0 : Body) : Option Body :=
  Let (↑b0.Fixtures.length : Int) fun (x197 : Int) =>
  LOOP
  (fun (rec198 : List Fixture × Int → Option Body) (s199 : List Fixture × Int) =>
  Let (decide (s199.snd < x197)) fun (x200 : Bool) =>
  if x200 = true then
  Chk ((0 : Int) ≤ s199.snd ∧ s199.snd < (↑b0.Fixtures.length : Int))
  (Let (ix b0.Fixtures s199.snd) fun (x201 : Fixture) =>
  Rx.Bind (shape_Clone x201.Shape) fun (r202 : Shape) =>
  Chk
  ((List.length s199.fst +
  [{ Shape := r202, Density := x201.Density, Friction := x201.Friction, Restitution := x201.Restitution, Sensor := x201.Sensor, Category := x201.Category, Mask := x201.Mask, Group := x201.Group : Fixture }].length) *
  (96 : Nat) ≤
  (140737488355328 : Nat))
  (Let
  (s199.fst ++
  [{ Shape := r202, Density := x201.Density, Friction := x201.Friction, Restitution := x201.Restitution, Sensor := x201.Sensor, Category := x201.Category, Mask := x201.Mask, Group := x201.Group : Fixture }])
  fun (x203 : List Fixture) => Let (IntKind.i64.wrap (s199.snd + (1 : Int))) fun (x204 : Int) => rec198 (x203, x204)))
  else
  some
  { ID := b0.ID, Kind := b0.Kind, Transform := b0.Transform, Velocity := b0.Velocity, AngularVelocity := b0.AngularVelocity, Force := b0.Force, Torque := b0.Torque, LinearDamping := b0.LinearDamping, AngularDamping := b0.AngularDamping, GravityScale := b0.GravityScale, Bullet := b0.Bullet, FixedRotation := b0.FixedRotation, NoSleep := b0.NoSleep, Asleep := b0.Asleep, IdleSteps := b0.IdleSteps, Fixtures := s199.fst : Body })
  fuel ([], (0 : Int))

noncomputable def input_Clone (x0 : Input) : Option Input :=
  Rx.Bind (body_Clone x0.Body) fun (r205 : Body) =>
  some { Kind := x0.Kind, ID := x0.ID, Vec := x0.Vec, Value := x0.Value, Body := r205, Joint := x0.Joint : Input }

noncomputable def recording_cloneInputs (inputs0 : (List Input)) : Option (List Input) :=
  Let (↑inputs0.length : Int) fun (x206 : Int) =>
  LOOP
  (fun (rec207 : List Input × Int → Option (List Input)) (s208 : List Input × Int) =>
  Let (decide (s208.snd < x206)) fun (x209 : Bool) =>
  if x209 = true then
  Chk ((0 : Int) ≤ s208.snd ∧ s208.snd < (↑inputs0.length : Int))
  (Let (ix inputs0 s208.snd) fun (x210 : Input) =>
  Rx.Bind (input_Clone x210) fun (r211 : Input) =>
  Chk ((List.length s208.fst + [r211].length) * (384 : Nat) ≤ (140737488355328 : Nat))
  (Let (s208.fst ++ [r211]) fun (x212 : List Input) =>
  Let (IntKind.i64.wrap (s208.snd + (1 : Int))) fun (x213 : Int) => rec207 (x212, x213)))
  else some s208.fst)
  fuel ([], (0 : Int))

noncomputable def recording_InputsAt (r0 : (List (List Input))) (frame1 : Int) : Option (List Input) :=
  Let (decide (frame1 < (0 : Int))) fun (x214 : Bool) =>
  Let (↑r0.length : Int) fun (x215 : Int) =>
  Let (decide (frame1 ≥ x215)) fun (x216 : Bool) =>
  Let (bif x214 then true else x216) fun (x217 : Bool) =>
  if x217 = true then some []
  else
  Chk ((0 : Int) ≤ frame1 ∧ frame1 < (↑r0.length : Int))
  (Let (ix r0 frame1) fun (x218 : List Input) =>
  Rx.Bind (recording_cloneInputs x218) fun (r219 : List Input) => some r219)

noncomputable def recording_clone (r0 : (List (List Input))) : Option (List (List Input)) :=
  Let (↑r0.length : Int) fun (x220 : Int) =>
  LOOP
  (fun (rec221 : List (List Input) × Int → Option (List (List Input))) (s222 : List (List Input) × Int) =>
  Let (decide (s222.snd < x220)) fun (x223 : Bool) =>
  if x223 = true then
  Chk ((0 : Int) ≤ s222.snd ∧ s222.snd < (↑r0.length : Int))
  (Let (ix r0 s222.snd) fun (x224 : List Input) =>
  Rx.Bind (recording_cloneInputs x224) fun (r225 : List Input) =>
  Chk ((List.length s222.fst + [r225].length) * (24 : Nat) ≤ (140737488355328 : Nat))
  (Let (s222.fst ++ [r225]) fun (x226 : List (List Input)) =>
  Let (IntKind.i64.wrap (s222.snd + (1 : Int))) fun (x227 : Int) => rec221 (x226, x227)))
  else some s222.fst)
  fuel ([], (0 : Int))

noncomputable def recording_Append (r0 : (List (List Input))) (frame1 : Int) (inputs2 : (List Input)) : Option ((List (List Input)) × Int) :=
  recAppendG recording_Validate recording_allValid recording_InputsAt input_Clone r0 frame1 inputs2

noncomputable def recording_word (k0 : Int) : Option (List UInt8) :=
  Let (k0 == (1 : Int)) fun (x228 : Bool) =>
  if x228 = true then
  some #[(105 : UInt8), (109 : UInt8), (112 : UInt8), (117 : UInt8), (108 : UInt8), (115 : UInt8), (101 : UInt8)].toList
  else
  Let (k0 == (2 : Int)) fun (x229 : Bool) =>
  if x229 = true then some #[(102 : UInt8), (111 : UInt8), (114 : UInt8), (99 : UInt8), (101 : UInt8)].toList
  else
  Let (k0 == (3 : Int)) fun (x230 : Bool) =>
  if x230 = true then
  some
  #[(97 : UInt8), (110 : UInt8), (103 : UInt8), (117 : UInt8), (108 : UInt8), (97 : UInt8), (114 : UInt8), (45 : UInt8),
  (105 : UInt8), (109 : UInt8), (112 : UInt8), (117 : UInt8), (108 : UInt8), (115 : UInt8), (101 : UInt8)].toList
  else
  Let (k0 == (4 : Int)) fun (x231 : Bool) =>
  if x231 = true then
  some
  #[(116 : UInt8), (114 : UInt8), (97 : UInt8), (110 : UInt8), (115 : UInt8), (102 : UInt8), (111 : UInt8), (114 : UInt8),
  (109 : UInt8)].toList
  else
  Let (k0 == (5 : Int)) fun (x232 : Bool) =>
  if x232 = true then
  some
  #[(118 : UInt8), (101 : UInt8), (108 : UInt8), (111 : UInt8), (99 : UInt8), (105 : UInt8), (116 : UInt8),
  (121 : UInt8)].toList
  else
  Let (k0 == (6 : Int)) fun (x233 : Bool) =>
  if x233 = true then some #[(119 : UInt8), (97 : UInt8), (107 : UInt8), (101 : UInt8)].toList
  else
  Let (k0 == (7 : Int)) fun (x234 : Bool) =>
  if x234 = true then
  some #[(116 : UInt8), (97 : UInt8), (114 : UInt8), (103 : UInt8), (101 : UInt8), (116 : UInt8)].toList
  else
  Let (k0 == (8 : Int)) fun (x235 : Bool) =>
  if x235 = true then
  some
  #[(109 : UInt8), (111 : UInt8), (116 : UInt8), (111 : UInt8), (114 : UInt8), (45 : UInt8), (115 : UInt8), (112 : UInt8),
  (101 : UInt8), (101 : UInt8), (100 : UInt8)].toList
  else
  Let (k0 == (10 : Int)) fun (x236 : Bool) =>
  if x236 = true then
  some
  #[(114 : UInt8), (101 : UInt8), (109 : UInt8), (111 : UInt8), (118 : UInt8), (101 : UInt8), (45 : UInt8), (98 : UInt8),
  (111 : UInt8), (100 : UInt8), (121 : UInt8)].toList
  else
  Let (k0 == (12 : Int)) fun (x237 : Bool) =>
  if x237 = true then
  some
  #[(114 : UInt8), (101 : UInt8), (109 : UInt8), (111 : UInt8), (118 : UInt8), (101 : UInt8), (45 : UInt8), (106 : UInt8),
  (111 : UInt8), (105 : UInt8), (110 : UInt8), (116 : UInt8)].toList
  else some #[].toList

noncomputable def format_FormatInt (n0 : Int) : Option (List UInt8) :=
  Let (IntKind.u64.wrap n0) fun (x238 : Int) =>
  Join
  (fun (v239 : Int) =>
  LOOP
  (fun (rec240 : Int × Int × List UInt8 → Option (List UInt8)) (s241 : Int × Int × List UInt8) =>
  Let (IntKind.i64.wrap (s241.snd.fst - (1 : Int))) fun (x242 : Int) =>
  Let (Int.tmod s241.fst (10 : Int)) fun (x243 : Int) =>
  Let (IntKind.u64.wrap ((48 : Int) + x243)) fun (x244 : Int) =>
  Let (toByte x244) fun (x245 : UInt8) =>
  Chk ((0 : Int) ≤ x242 ∧ x242 < (↑(20 : Nat) : Int))
  (Chk ((0 : Int) ≤ x242 ∧ x242 < (↑(List.length s241.snd.snd) : Int))
  (Let (List.set s241.snd.snd x242.toNat x245) fun (x246 : List UInt8) =>
  Let (IntKind.u64.wrap (Int.tdiv s241.fst (10 : Int))) fun (x247 : Int) =>
  Let (x247 == (0 : Int)) fun (x248 : Bool) =>
  if x248 = true then
  Join
  (fun (v249 : Int × List UInt8) =>
  Chk
  ((0 : Int) ≤ (some v249.fst).getD (0 : Int) ∧
  (0 : Int) ≤ none.getD (0 : Int) ∧
  Int.toNat v249.fst ≤ (20 : Nat) ∧ (20 : Nat) ≤ (20 : Nat) ∧ (20 : Nat) ≤ List.length v249.snd)
  (Chk (Int.toNat v249.fst + ((20 : Nat) - Int.toNat v249.fst) ≤ List.length v249.snd)
  (some (List.take ((20 : Nat) - Int.toNat v249.fst) (List.drop (Int.toNat v249.fst) v249.snd)))))
  fun (j250 : Int × List UInt8 → Option (List UInt8)) =>
  Let (decide (n0 < (0 : Int))) fun (x251 : Bool) =>
  if x251 = true then
  Let (IntKind.i64.wrap (x242 - (1 : Int))) fun (x252 : Int) =>
  Chk ((0 : Int) ≤ x252 ∧ x252 < (↑(20 : Nat) : Int))
  (Chk ((0 : Int) ≤ x252 ∧ x252 < (↑x246.length : Int))
  (Let (x246.set x252.toNat (toByte (45 : Int))) fun (x253 : List UInt8) => j250 (x252, x253)))
  else j250 (x242, x246)
  else rec240 (x247, x242, x246))))
  fuel
  (v239, (20 : Int),
  [toByte (0 : Int), toByte (0 : Int), toByte (0 : Int), toByte (0 : Int), toByte (0 : Int), toByte (0 : Int),
  toByte (0 : Int), toByte (0 : Int), toByte (0 : Int), toByte (0 : Int), toByte (0 : Int), toByte (0 : Int),
  toByte (0 : Int), toByte (0 : Int), toByte (0 : Int), toByte (0 : Int), toByte (0 : Int), toByte (0 : Int),
  toByte (0 : Int), toByte (0 : Int)]))
  fun (j254 : Int → Option (List UInt8)) =>
  Let (decide (n0 < (0 : Int))) fun (x255 : Bool) =>
  if x255 = true then Let (IntKind.u64.wrap ((0 : Int) - x238)) fun (x256 : Int) => j254 x256 else j254 x238

noncomputable def format_FormatFixed (x0 : Int) : Option (List UInt8) :=
  Let (x0 != (0 : Int)) fun (x257 : Bool) =>
  Let (x0.tmod (65536 : Int)) fun (x258 : Int) =>
  Let (x258 == (0 : Int)) fun (x259 : Bool) =>
  Let (bif x257 then x259 else false) fun (x260 : Bool) =>
  if x260 = true then
  Let (IntKind.i64.wrap (x0.tdiv (65536 : Int))) fun (x261 : Int) =>
  Rx.Bind (format_FormatInt x261) fun (r262 : List UInt8) =>
  Chk (r262.length + (1 : Nat) ≤ (9223372036854775807 : Nat))
  (Let (r262 ++ #[(117 : UInt8)].toList) fun (x263 : List UInt8) => some x263)
  else Rx.Bind (format_FormatInt x0) fun (r264 : List UInt8) => some r264

noncomputable def strings_Join (elems0 : (List (List UInt8))) (sep1 : (List UInt8)) : Option (List UInt8) :=
  joinS elems0 sep1

noncomputable def format_JoinFields (fields0 : (List (List UInt8))) : Option (List UInt8) :=
  Rx.Bind (strings_Join fields0 #[(32 : UInt8)].toList) fun (r265 : List UInt8) => some r265

noncomputable def recording_formatInput (x0 : Input) : Option (List UInt8) :=
  Rx.Bind (recording_word x0.Kind) fun (r266 : List UInt8) =>
  Rx.Bind (format_FormatInt x0.ID) fun (r267 : List UInt8) =>
  Rx.Bind (input_UsedFields x0.Kind) fun (r268 : Bool × Bool × Bool) =>
  Join
  (fun (v269 : List (List UInt8)) =>
  Join (fun (v270 : List (List UInt8)) => Rx.Bind (format_JoinFields v270) fun (r271 : List UInt8) => some r271)
  fun (j272 : List (List UInt8) → Option (List UInt8)) =>
  if r268.snd.snd = true then
  Rx.Bind (format_FormatFixed x0.Value) fun (r273 : List UInt8) =>
  Chk ((v269.length + [r273].length) * (16 : Nat) ≤ (140737488355328 : Nat))
  (Let (v269 ++ [r273]) fun (x274 : List (List UInt8)) => j272 x274)
  else j272 v269)
  fun (j275 : List (List UInt8) → Option (List UInt8)) =>
  if r268.snd.fst = true then
  Rx.Bind (format_FormatFixed x0.Vec.X) fun (r276 : List UInt8) =>
  Rx.Bind (format_FormatFixed x0.Vec.Y) fun (r277 : List UInt8) =>
  Chk (([r266, r267].length + [r276, r277].length) * (16 : Nat) ≤ (140737488355328 : Nat))
  (Let ([r266, r267] ++ [r276, r277]) fun (x278 : List (List UInt8)) => j275 x278)
  else j275 [r266, r267]

noncomputable def recording_Format (r0 : (List (List Input))) : Option ((List UInt8) × Int) :=
  Rx.Bind (recording_Validate r0) fun (r279 : Int) =>
  Let (r279 != (0 : Int)) fun (x280 : Bool) =>
  if x280 = true then some (#[].toList, (25 : Int))
  else
  Let (↑r0.length : Int) fun (x281 : Int) =>
  LOOP
  (fun (rec282 : List UInt8 × Int → Option (List UInt8 × Int)) (s283 : List UInt8 × Int) =>
  Let (decide (s283.snd < x281)) fun (x284 : Bool) =>
  if x284 = true then
  Chk ((0 : Int) ≤ s283.snd ∧ s283.snd < (↑r0.length : Int))
  (Let (ix r0 s283.snd) fun (x285 : List Input) =>
  Chk (List.length s283.fst + (6 : Nat) ≤ (9223372036854775807 : Nat))
  (Let (s283.fst ++ #[(102 : UInt8), (114 : UInt8), (97 : UInt8), (109 : UInt8), (101 : UInt8), (10 : UInt8)].toList)
  fun (x286 : List UInt8) =>
  Let (↑x285.length : Int) fun (x287 : Int) =>
  LOOP
  (fun (rec288 : List UInt8 × Int → Option (List UInt8 × Int)) (s289 : List UInt8 × Int) =>
  Let (decide (s289.snd < x287)) fun (x290 : Bool) =>
  if x290 = true then
  Chk ((0 : Int) ≤ s289.snd ∧ s289.snd < (↑x285.length : Int))
  (Let (ix x285 s289.snd) fun (x291 : Input) =>
  Rx.Bind (recording_word x291.Kind) fun (r292 : List UInt8) =>
  Let (r292 == #[].toList) fun (x293 : Bool) =>
  if x293 = true then some (#[].toList, (25 : Int))
  else
  Rx.Bind (recording_formatInput x291) fun (r294 : List UInt8) =>
  Chk (r294.length + (1 : Nat) ≤ (9223372036854775807 : Nat))
  (Let (r294 ++ #[(10 : UInt8)].toList) fun (x295 : List UInt8) =>
  Chk (List.length s289.fst + x295.length ≤ (9223372036854775807 : Nat))
  (Let (s289.fst ++ x295) fun (x296 : List UInt8) =>
  Let (IntKind.i64.wrap (s289.snd + (1 : Int))) fun (x297 : Int) => rec288 (x296, x297))))
  else Let (IntKind.i64.wrap (s283.snd + (1 : Int))) fun (x298 : Int) => rec282 (s289.fst, x298))
  fuel (x286, (0 : Int))))
  else some (s283.fst, (0 : Int)))
  fuel (#[].toList, (0 : Int))

noncomputable def stringslite_HasSuffix (s0 : (List UInt8)) (suffix1 : (List UInt8)) : Option Bool :=
  Let (↑s0.length : Int) fun (x299 : Int) =>
  Let (↑suffix1.length : Int) fun (x300 : Int) =>
  Let (decide (x299 ≥ x300)) fun (x301 : Bool) =>
  Let (↑s0.length : Int) fun (x302 : Int) =>
  Let (↑suffix1.length : Int) fun (x303 : Int) =>
  Let (IntKind.i64.wrap (x302 - x303)) fun (x304 : Int) =>
  Chk ((x301 == true) = true → (0 : Int) ≤ x304 ∧ x304 ≤ (↑s0.length : Int))
  (Let (List.drop x304.toNat s0) fun (x305 : List UInt8) =>
  Let (x305 == suffix1) fun (x306 : Bool) => Let (bif x301 then x306 else false) fun (x307 : Bool) => some x307)

noncomputable def stringslite_CutSuffix (s0 : (List UInt8)) (suffix1 : (List UInt8)) : Option ((List UInt8) × Bool) :=
  Rx.Bind (stringslite_HasSuffix s0 suffix1) fun (r308 : Bool) =>
  Let (!r308) fun (x309 : Bool) =>
  if x309 = true then some (s0, false)
  else
  Let (↑s0.length : Int) fun (x310 : Int) =>
  Let (↑suffix1.length : Int) fun (x311 : Int) =>
  Let (IntKind.i64.wrap (x310 - x311)) fun (x312 : Int) =>
  Chk ((0 : Int) ≤ x312 ∧ x312 ≤ (↑s0.length : Int))
  (Let (List.take x312.toNat s0) fun (x313 : List UInt8) => some (x313, true))

noncomputable def strings_CutSuffix (s0 : (List UInt8)) (suffix1 : (List UInt8)) : Option ((List UInt8) × Bool) :=
  Rx.Bind (stringslite_CutSuffix s0 suffix1) fun (r314 : List UInt8 × Bool) => some r314

noncomputable def strings_explode (s0 : (List UInt8)) (n1 : Int) : Option (List (List UInt8)) :=
  none

noncomputable def strings_Count (s0 : (List UInt8)) (substr1 : (List UInt8)) : Option Int :=
  count1 s0 substr1

noncomputable def strings_Index (s0 : (List UInt8)) (substr1 : (List UInt8)) : Option Int :=
  index1 s0 substr1

noncomputable def strings_genSplit (s0 : (List UInt8)) (sep1 : (List UInt8)) (sepSave2 : Int) (n3 : Int) : Option (List (List UInt8)) :=
  Let (n3 == (0 : Int)) fun (x315 : Bool) =>
  if x315 = true then some []
  else
  Let (sep1 == #[].toList) fun (x316 : Bool) =>
  if x316 = true then Rx.Bind (strings_explode s0 n3) fun (r317 : List (List UInt8)) => some r317
  else
  Join
  (fun (v318 : Int) =>
  Let (↑s0.length : Int) fun (x319 : Int) =>
  Let (IntKind.i64.wrap (x319 + (1 : Int))) fun (x320 : Int) =>
  Let (min v318 x320) fun (x321 : Int) =>
  Chk
  ((0 : Int) ≤ x321 ∧
  x321 ≤ x321 ∧ (↑(16 : Nat) : Int) * x321 ≤ (281474976710656 : Int) ∧ x321 ≤ (9223372036854775807 : Int))
  (Let (List.replicate x321.toNat #[].toList) fun (x322 : List (List UInt8)) =>
  Let (IntKind.i64.wrap (x321 - (1 : Int))) fun (x323 : Int) =>
  Join
  (fun (v324 : List UInt8 × Int × List (List UInt8)) =>
  Chk ((0 : Int) ≤ v324.snd.fst ∧ v324.snd.fst < (↑(List.length v324.snd.snd) : Int))
  (Chk ((0 : Int) ≤ v324.snd.fst ∧ v324.snd.fst < (↑(List.length v324.snd.snd) : Int))
  (Let (List.set v324.snd.snd (Int.toNat v324.snd.fst) v324.fst) fun (x325 : List (List UInt8)) =>
  Let (IntKind.i64.wrap (v324.snd.fst + (1 : Int))) fun (x326 : Int) =>
  Chk
  ((0 : Int) ≤ none.getD (0 : Int) ∧
  (0 : Int) ≤ (some x326).getD (0 : Int) ∧ (0 : Nat) ≤ x326.toNat ∧ x326.toNat ≤ x325.length)
  (Chk (x326.toNat - (0 : Nat) ≤ x325.length)
  (Let (List.take (x326.toNat - (0 : Nat)) x325) fun (x327 : List (List UInt8)) => some x327)))))
  fun (j328 : List UInt8 × Int × List (List UInt8) → Option (List (List UInt8))) =>
  LOOP
  (fun (rec329 : List UInt8 × Int × List (List UInt8) → Option (List (List UInt8)))
  (s330 : List UInt8 × Int × List (List UInt8)) =>
  Let (decide (s330.snd.fst < x323)) fun (x331 : Bool) =>
  if x331 = true then
  Rx.Bind (strings_Index s330.fst sep1) fun (r332 : Int) =>
  Let (decide (r332 < (0 : Int))) fun (x333 : Bool) =>
  if x333 = true then j328 s330
  else
  Let (IntKind.i64.wrap (r332 + sepSave2)) fun (x334 : Int) =>
  Chk ((0 : Int) ≤ x334 ∧ x334 ≤ (↑(List.length s330.fst) : Int))
  (Let (List.take x334.toNat s330.fst) fun (x335 : List UInt8) =>
  Chk ((0 : Int) ≤ s330.snd.fst ∧ s330.snd.fst < (↑(List.length s330.snd.snd) : Int))
  (Chk ((0 : Int) ≤ s330.snd.fst ∧ s330.snd.fst < (↑(List.length s330.snd.snd) : Int))
  (Let (List.set s330.snd.snd (Int.toNat s330.snd.fst) x335) fun (x336 : List (List UInt8)) =>
  Let (↑sep1.length : Int) fun (x337 : Int) =>
  Let (IntKind.i64.wrap (r332 + x337)) fun (x338 : Int) =>
  Chk ((0 : Int) ≤ x338 ∧ x338 ≤ (↑(List.length s330.fst) : Int))
  (Let (List.drop x338.toNat s330.fst) fun (x339 : List UInt8) =>
  Let (IntKind.i64.wrap (s330.snd.fst + (1 : Int))) fun (x340 : Int) => rec329 (x339, x340, x336)))))
  else j328 s330)
  fuel (s0, (0 : Int), x322)))
  fun (j341 : Int → Option (List (List UInt8))) =>
  Let (decide (n3 < (0 : Int))) fun (x342 : Bool) =>
  if x342 = true then
  Rx.Bind (strings_Count s0 sep1) fun (r343 : Int) =>
  Let (IntKind.i64.wrap (r343 + (1 : Int))) fun (x344 : Int) => j341 x344
  else j341 n3

noncomputable def strings_Split (s0 : (List UInt8)) (sep1 : (List UInt8)) : Option (List (List UInt8)) :=
  Rx.Bind (strings_genSplit s0 sep1 (0 : Int) (-1 : Int)) fun (r345 : List (List UInt8)) => some r345

noncomputable def format_SplitLines (text0 : (List UInt8)) : Option ((List (List UInt8)) × Int) :=
  Let (text0 == #[].toList) fun (x346 : Bool) =>
  if x346 = true then some ([], (0 : Int))
  else
  Rx.Bind (strings_CutSuffix text0 #[(10 : UInt8)].toList) fun (r347 : List UInt8 × Bool) =>
  Let (!r347.snd) fun (x348 : Bool) =>
  if x348 = true then some ([], (3 : Int))
  else Rx.Bind (strings_Split r347.fst #[(10 : UInt8)].toList) fun (r349 : List (List UInt8)) => some (r349, (0 : Int))

noncomputable def format_Fields (line0 : (List UInt8)) : Option ((List (List UInt8)) × Int) :=
  Let (line0 == #[].toList) fun (x350 : Bool) =>
  if x350 = true then some ([], (0 : Int))
  else
  Let (↑line0.length : Int) fun (x351 : Int) =>
  LOOP
  (fun (rec352 : Int → Option (List (List UInt8) × Int)) (s353 : Int) =>
  Let (decide (s353 < x351)) fun (x354 : Bool) =>
  if x354 = true then
  Chk ((0 : Int) ≤ s353 ∧ s353 < (↑line0.length : Int))
  (Let (ix line0 s353) fun (x355 : UInt8) =>
  Let (decide (x355 < toByte (32 : Int))) fun (x356 : Bool) =>
  Let (decide (toByte (126 : Int) < x355)) fun (x357 : Bool) =>
  Let (bif x356 then true else x357) fun (x358 : Bool) =>
  if x358 = true then some ([], (3 : Int)) else Let (IntKind.i64.wrap (s353 + (1 : Int))) fun (x359 : Int) => rec352 x359)
  else
  Rx.Bind (strings_Split line0 #[(32 : UInt8)].toList) fun (r360 : List (List UInt8)) =>
  Let (↑r360.length : Int) fun (x361 : Int) =>
  LOOP
  (fun (rec362 : Int → Option (List (List UInt8) × Int)) (s363 : Int) =>
  Let (decide (s363 < x361)) fun (x364 : Bool) =>
  if x364 = true then
  Chk ((0 : Int) ≤ s363 ∧ s363 < (↑r360.length : Int))
  (Let (ix r360 s363) fun (x365 : List UInt8) =>
  Let (x365 == #[].toList) fun (x366 : Bool) =>
  if x366 = true then some ([], (3 : Int)) else Let (IntKind.i64.wrap (s363 + (1 : Int))) fun (x367 : Int) => rec362 x367)
  else some (r360, (0 : Int)))
  fuel (0 : Int))
  fuel (0 : Int)

noncomputable def recording_Parse (s0 : (List UInt8)) : Option ((List (List Input)) × Int × Int) :=
  recParse s0

noncomputable def codec_magnitude (n0 : Int) : Option Int :=
  Let (decide (n0 < (0 : Int))) fun (x447 : Bool) =>
  if x447 = true then
  Let (IntKind.u64.wrap n0) fun (x448 : Int) => Let (IntKind.u64.wrap ((0 : Int) - x448)) fun (x449 : Int) => some x449
  else Let (IntKind.u64.wrap n0) fun (x450 : Int) => some x450

noncomputable def codec_extend (b0 : (List UInt8)) (more1 : (List UInt8)) : Option (List UInt8) :=
  Let (↑b0.length : Int) fun (x451 : Int) =>
  Let (↑b0.length : Int) fun (x452 : Int) =>
  Chk ((0 : Int) ≤ x451 ∧ x451 ≤ (↑b0.length : Int) ∧ x452 = x451)
  (Let (List.take x451.toNat b0) fun (x453 : List UInt8) =>
  Chk ((x453.length + more1.length) * (1 : Nat) ≤ (140737488355328 : Nat))
  (Let (x453 ++ more1) fun (x454 : List UInt8) => some x454))

noncomputable def codec_AppendInt (b0 : (List UInt8)) (n1 : Int) : Option (List UInt8) :=
  Rx.Bind (codec_magnitude n1) fun (r455 : Int) =>
  LOOP
  (fun (rec456 : List UInt8 × Int → Option (List UInt8)) (s457 : List UInt8 × Int) =>
  Let (decide (s457.snd > (0 : Int))) fun (x458 : Bool) =>
  if x458 = true then
  Let (toByte s457.snd) fun (x459 : UInt8) =>
  Chk (([x459].length + List.length s457.fst) * (1 : Nat) ≤ (140737488355328 : Nat))
  (Let ([x459] ++ s457.fst) fun (x460 : List UInt8) =>
  Let (bShr IntKind.u64 s457.snd (8 : Int)) fun (x461 : Int) => rec456 (x460, x461))
  else
  Let (↑(List.length s457.fst) : Int) fun (x462 : Int) =>
  Join
  (fun (v463 : Int) =>
  Let (toByte v463) fun (x464 : UInt8) =>
  Rx.Bind (codec_extend b0 [x464]) fun (r465 : List UInt8) =>
  Rx.Bind (codec_extend r465 s457.fst) fun (r466 : List UInt8) => some r466)
  fun (j467 : Int → Option (List UInt8)) =>
  Let (decide (n1 < (0 : Int))) fun (x468 : Bool) =>
  if x468 = true then Let (IntKind.i64.wrap (x462 + (16 : Int))) fun (x469 : Int) => j467 x469 else j467 x462)
  fuel ([], r455)

noncomputable def codec_AppendVec (b0 : (List UInt8)) (v1 : Vec) : Option (List UInt8) :=
  Rx.Bind (codec_AppendInt b0 v1.X) fun (r470 : List UInt8) =>
  Rx.Bind (codec_AppendInt r470 v1.Y) fun (r471 : List UInt8) => some r471

noncomputable def codec_AppendBool (b0 : (List UInt8)) (x1 : Bool) : Option (List UInt8) :=
  if x1 = true then Rx.Bind (codec_extend b0 [toByte (1 : Int)]) fun (r472 : List UInt8) => some r472
  else Rx.Bind (codec_extend b0 [toByte (0 : Int)]) fun (r473 : List UInt8) => some r473

noncomputable def snapshot_AppendBody (b0 : (List UInt8)) (x1 : Body) : Option (List UInt8) :=
  Chk (b0.length * (1 : Nat) ≤ (140737488355328 : Nat))
  (Let (↑[x1.ID, x1.Kind].length : Int) fun (x474 : Int) =>
  LOOP
  (fun (rec475 : Int × snapshot_encoder → Option (List UInt8)) (s476 : Int × snapshot_encoder) =>
  Let (decide (s476.fst < x474)) fun (x477 : Bool) =>
  if x477 = true then
  Chk ((0 : Int) ≤ s476.fst ∧ s476.fst < (↑[x1.ID, x1.Kind].length : Int))
  (Let (ix [x1.ID, x1.Kind] s476.fst) fun (x478 : Int) =>
  Rx.Bind (codec_AppendInt s476.snd.buf x478) fun (r479 : List UInt8) =>
  Let (IntKind.i64.wrap (s476.fst + (1 : Int))) fun (x480 : Int) => rec475 (x480, { buf := r479 : snapshot_encoder }))
  else
  Let (↑[x1.Transform.Position].length : Int) fun (x481 : Int) =>
  LOOP
  (fun (rec482 : Int × snapshot_encoder → Option (List UInt8)) (s483 : Int × snapshot_encoder) =>
  Let (decide (s483.fst < x481)) fun (x484 : Bool) =>
  if x484 = true then
  Chk ((0 : Int) ≤ s483.fst ∧ s483.fst < (↑[x1.Transform.Position].length : Int))
  (Let (ix [x1.Transform.Position] s483.fst) fun (x485 : Vec) =>
  Rx.Bind (codec_AppendVec s483.snd.buf x485) fun (r486 : List UInt8) =>
  Let (IntKind.i64.wrap (s483.fst + (1 : Int))) fun (x487 : Int) => rec482 (x487, { buf := r486 : snapshot_encoder }))
  else
  Let (↑[x1.Transform.Angle].length : Int) fun (x488 : Int) =>
  LOOP
  (fun (rec489 : Int × snapshot_encoder → Option (List UInt8)) (s490 : Int × snapshot_encoder) =>
  Let (decide (s490.fst < x488)) fun (x491 : Bool) =>
  if x491 = true then
  Chk ((0 : Int) ≤ s490.fst ∧ s490.fst < (↑[x1.Transform.Angle].length : Int))
  (Let (ix [x1.Transform.Angle] s490.fst) fun (x492 : Int) =>
  Rx.Bind (codec_AppendInt s490.snd.buf x492) fun (r493 : List UInt8) =>
  Let (IntKind.i64.wrap (s490.fst + (1 : Int))) fun (x494 : Int) => rec489 (x494, { buf := r493 : snapshot_encoder }))
  else
  Let (↑[x1.Velocity].length : Int) fun (x495 : Int) =>
  LOOP
  (fun (rec496 : Int × snapshot_encoder → Option (List UInt8)) (s497 : Int × snapshot_encoder) =>
  Let (decide (s497.fst < x495)) fun (x498 : Bool) =>
  if x498 = true then
  Chk ((0 : Int) ≤ s497.fst ∧ s497.fst < (↑[x1.Velocity].length : Int))
  (Let (ix [x1.Velocity] s497.fst) fun (x499 : Vec) =>
  Rx.Bind (codec_AppendVec s497.snd.buf x499) fun (r500 : List UInt8) =>
  Let (IntKind.i64.wrap (s497.fst + (1 : Int))) fun (x501 : Int) => rec496 (x501, { buf := r500 : snapshot_encoder }))
  else
  Let (↑[x1.AngularVelocity].length : Int) fun (x502 : Int) =>
  LOOP
  (fun (rec503 : Int × snapshot_encoder → Option (List UInt8)) (s504 : Int × snapshot_encoder) =>
  Let (decide (s504.fst < x502)) fun (x505 : Bool) =>
  if x505 = true then
  Chk ((0 : Int) ≤ s504.fst ∧ s504.fst < (↑[x1.AngularVelocity].length : Int))
  (Let (ix [x1.AngularVelocity] s504.fst) fun (x506 : Int) =>
  Rx.Bind (codec_AppendInt s504.snd.buf x506) fun (r507 : List UInt8) =>
  Let (IntKind.i64.wrap (s504.fst + (1 : Int))) fun (x508 : Int) => rec503 (x508, { buf := r507 : snapshot_encoder }))
  else
  Let (↑[x1.Force].length : Int) fun (x509 : Int) =>
  LOOP
  (fun (rec510 : Int × snapshot_encoder → Option (List UInt8)) (s511 : Int × snapshot_encoder) =>
  Let (decide (s511.fst < x509)) fun (x512 : Bool) =>
  if x512 = true then
  Chk ((0 : Int) ≤ s511.fst ∧ s511.fst < (↑[x1.Force].length : Int))
  (Let (ix [x1.Force] s511.fst) fun (x513 : Vec) =>
  Rx.Bind (codec_AppendVec s511.snd.buf x513) fun (r514 : List UInt8) =>
  Let (IntKind.i64.wrap (s511.fst + (1 : Int))) fun (x515 : Int) => rec510 (x515, { buf := r514 : snapshot_encoder }))
  else
  Let (↑[x1.Torque, x1.LinearDamping, x1.AngularDamping, x1.GravityScale].length : Int) fun (x516 : Int) =>
  LOOP
  (fun (rec517 : Int × snapshot_encoder → Option (List UInt8)) (s518 : Int × snapshot_encoder) =>
  Let (decide (s518.fst < x516)) fun (x519 : Bool) =>
  if x519 = true then
  Chk
  ((0 : Int) ≤ s518.fst ∧ s518.fst < (↑[x1.Torque, x1.LinearDamping, x1.AngularDamping, x1.GravityScale].length : Int))
  (Let (ix [x1.Torque, x1.LinearDamping, x1.AngularDamping, x1.GravityScale] s518.fst) fun (x520 : Int) =>
  Rx.Bind (codec_AppendInt s518.snd.buf x520) fun (r521 : List UInt8) =>
  Let (IntKind.i64.wrap (s518.fst + (1 : Int))) fun (x522 : Int) => rec517 (x522, { buf := r521 : snapshot_encoder }))
  else
  Let (↑[x1.Bullet, x1.FixedRotation, x1.NoSleep, x1.Asleep].length : Int) fun (x523 : Int) =>
  LOOP
  (fun (rec524 : Int × snapshot_encoder → Option (List UInt8)) (s525 : Int × snapshot_encoder) =>
  Let (decide (s525.fst < x523)) fun (x526 : Bool) =>
  if x526 = true then
  Chk ((0 : Int) ≤ s525.fst ∧ s525.fst < (↑[x1.Bullet, x1.FixedRotation, x1.NoSleep, x1.Asleep].length : Int))
  (Let (ix [x1.Bullet, x1.FixedRotation, x1.NoSleep, x1.Asleep] s525.fst) fun (x527 : Bool) =>
  Rx.Bind (codec_AppendBool s525.snd.buf x527) fun (r528 : List UInt8) =>
  Let (IntKind.i64.wrap (s525.fst + (1 : Int))) fun (x529 : Int) => rec524 (x529, { buf := r528 : snapshot_encoder }))
  else
  Let (↑x1.Fixtures.length : Int) fun (x530 : Int) =>
  Let (↑[x1.IdleSteps, x530].length : Int) fun (x531 : Int) =>
  LOOP
  (fun (rec532 : Int × snapshot_encoder → Option (List UInt8)) (s533 : Int × snapshot_encoder) =>
  Let (decide (s533.fst < x531)) fun (x534 : Bool) =>
  if x534 = true then
  Chk ((0 : Int) ≤ s533.fst ∧ s533.fst < (↑[x1.IdleSteps, x530].length : Int))
  (Let (ix [x1.IdleSteps, x530] s533.fst) fun (x535 : Int) =>
  Rx.Bind (codec_AppendInt s533.snd.buf x535) fun (r536 : List UInt8) =>
  Let (IntKind.i64.wrap (s533.fst + (1 : Int))) fun (x537 : Int) => rec532 (x537, { buf := r536 : snapshot_encoder }))
  else
  Let (↑x1.Fixtures.length : Int) fun (x538 : Int) =>
  LOOP
  (fun (rec539 : Int × snapshot_encoder → Option (List UInt8)) (s540 : Int × snapshot_encoder) =>
  Let (decide (s540.fst < x538)) fun (x541 : Bool) =>
  if x541 = true then
  Chk ((0 : Int) ≤ s540.fst ∧ s540.fst < (↑x1.Fixtures.length : Int))
  (Let (ix x1.Fixtures s540.fst) fun (x542 : Fixture) =>
  Let (↑x542.Shape.Vertices.length : Int) fun (x543 : Int) =>
  Let (↑[x542.Shape.Kind, x542.Shape.Radius, x543].length : Int) fun (x544 : Int) =>
  LOOP
  (fun (rec545 : Int × snapshot_encoder → Option (List UInt8)) (s546 : Int × snapshot_encoder) =>
  Let (decide (s546.fst < x544)) fun (x547 : Bool) =>
  if x547 = true then
  Chk ((0 : Int) ≤ s546.fst ∧ s546.fst < (↑[x542.Shape.Kind, x542.Shape.Radius, x543].length : Int))
  (Let (ix [x542.Shape.Kind, x542.Shape.Radius, x543] s546.fst) fun (x548 : Int) =>
  Rx.Bind (codec_AppendInt s546.snd.buf x548) fun (r549 : List UInt8) =>
  Let (IntKind.i64.wrap (s546.fst + (1 : Int))) fun (x550 : Int) => rec545 (x550, { buf := r549 : snapshot_encoder }))
  else
  Let (↑x542.Shape.Vertices.length : Int) fun (x551 : Int) =>
  LOOP
  (fun (rec552 : Int × snapshot_encoder → Option (List UInt8)) (s553 : Int × snapshot_encoder) =>
  Let (decide (s553.fst < x551)) fun (x554 : Bool) =>
  if x554 = true then
  Chk ((0 : Int) ≤ s553.fst ∧ s553.fst < (↑x542.Shape.Vertices.length : Int))
  (Let (ix x542.Shape.Vertices s553.fst) fun (x555 : Vec) =>
  Rx.Bind (codec_AppendVec s553.snd.buf x555) fun (r556 : List UInt8) =>
  Let (IntKind.i64.wrap (s553.fst + (1 : Int))) fun (x557 : Int) => rec552 (x557, { buf := r556 : snapshot_encoder }))
  else
  Let (↑[x542.Density, x542.Friction, x542.Restitution].length : Int) fun (x558 : Int) =>
  LOOP
  (fun (rec559 : Int × snapshot_encoder → Option (List UInt8)) (s560 : Int × snapshot_encoder) =>
  Let (decide (s560.fst < x558)) fun (x561 : Bool) =>
  if x561 = true then
  Chk ((0 : Int) ≤ s560.fst ∧ s560.fst < (↑[x542.Density, x542.Friction, x542.Restitution].length : Int))
  (Let (ix [x542.Density, x542.Friction, x542.Restitution] s560.fst) fun (x562 : Int) =>
  Rx.Bind (codec_AppendInt s560.snd.buf x562) fun (r563 : List UInt8) =>
  Let (IntKind.i64.wrap (s560.fst + (1 : Int))) fun (x564 : Int) => rec559 (x564, { buf := r563 : snapshot_encoder }))
  else
  Let (↑[x542.Sensor].length : Int) fun (x565 : Int) =>
  LOOP
  (fun (rec566 : Int × snapshot_encoder → Option (List UInt8)) (s567 : Int × snapshot_encoder) =>
  Let (decide (s567.fst < x565)) fun (x568 : Bool) =>
  if x568 = true then
  Chk ((0 : Int) ≤ s567.fst ∧ s567.fst < (↑[x542.Sensor].length : Int))
  (Let (ix [x542.Sensor] s567.fst) fun (x569 : Bool) =>
  Rx.Bind (codec_AppendBool s567.snd.buf x569) fun (r570 : List UInt8) =>
  Let (IntKind.i64.wrap (s567.fst + (1 : Int))) fun (x571 : Int) => rec566 (x571, { buf := r570 : snapshot_encoder }))
  else
  Let (↑[x542.Category, x542.Mask, x542.Group].length : Int) fun (x572 : Int) =>
  LOOP
  (fun (rec573 : Int × snapshot_encoder → Option (List UInt8)) (s574 : Int × snapshot_encoder) =>
  Let (decide (s574.fst < x572)) fun (x575 : Bool) =>
  if x575 = true then
  Chk ((0 : Int) ≤ s574.fst ∧ s574.fst < (↑[x542.Category, x542.Mask, x542.Group].length : Int))
  (Let (ix [x542.Category, x542.Mask, x542.Group] s574.fst) fun (x576 : Int) =>
  Rx.Bind (codec_AppendInt s574.snd.buf x576) fun (r577 : List UInt8) =>
  Let (IntKind.i64.wrap (s574.fst + (1 : Int))) fun (x578 : Int) => rec573 (x578, { buf := r577 : snapshot_encoder }))
  else Let (IntKind.i64.wrap (s540.fst + (1 : Int))) fun (x579 : Int) => rec539 (x579, s574.snd))
  fuel ((0 : Int), s567.snd))
  fuel ((0 : Int), s560.snd))
  fuel ((0 : Int), s553.snd))
  fuel ((0 : Int), s546.snd))
  fuel ((0 : Int), s540.snd))
  else some s540.snd.buf)
  fuel ((0 : Int), s533.snd))
  fuel ((0 : Int), s525.snd))
  fuel ((0 : Int), s518.snd))
  fuel ((0 : Int), s511.snd))
  fuel ((0 : Int), s504.snd))
  fuel ((0 : Int), s497.snd))
  fuel ((0 : Int), s490.snd))
  fuel ((0 : Int), s483.snd))
  fuel ((0 : Int), s476.snd))
  fuel ((0 : Int), { buf := b0 : snapshot_encoder }))

noncomputable def snapshot_AppendJoint (b0 : (List UInt8)) (x1 : Joint) : Option (List UInt8) :=
  Chk (b0.length * (1 : Nat) ≤ (140737488355328 : Nat))
  (Let (↑[x1.ID, x1.Kind, x1.BodyA, x1.BodyB].length : Int) fun (x580 : Int) =>
  LOOP
  (fun (rec581 : Int × snapshot_encoder → Option (List UInt8)) (s582 : Int × snapshot_encoder) =>
  Let (decide (s582.fst < x580)) fun (x583 : Bool) =>
  if x583 = true then
  Chk ((0 : Int) ≤ s582.fst ∧ s582.fst < (↑[x1.ID, x1.Kind, x1.BodyA, x1.BodyB].length : Int))
  (Let (ix [x1.ID, x1.Kind, x1.BodyA, x1.BodyB] s582.fst) fun (x584 : Int) =>
  Rx.Bind (codec_AppendInt s582.snd.buf x584) fun (r585 : List UInt8) =>
  Let (IntKind.i64.wrap (s582.fst + (1 : Int))) fun (x586 : Int) => rec581 (x586, { buf := r585 : snapshot_encoder }))
  else
  Let (↑[x1.AnchorA, x1.AnchorB, x1.Axis].length : Int) fun (x587 : Int) =>
  LOOP
  (fun (rec588 : Int × snapshot_encoder → Option (List UInt8)) (s589 : Int × snapshot_encoder) =>
  Let (decide (s589.fst < x587)) fun (x590 : Bool) =>
  if x590 = true then
  Chk ((0 : Int) ≤ s589.fst ∧ s589.fst < (↑[x1.AnchorA, x1.AnchorB, x1.Axis].length : Int))
  (Let (ix [x1.AnchorA, x1.AnchorB, x1.Axis] s589.fst) fun (x591 : Vec) =>
  Rx.Bind (codec_AppendVec s589.snd.buf x591) fun (r592 : List UInt8) =>
  Let (IntKind.i64.wrap (s589.fst + (1 : Int))) fun (x593 : Int) => rec588 (x593, { buf := r592 : snapshot_encoder }))
  else
  Let (↑[x1.ReferenceAngle].length : Int) fun (x594 : Int) =>
  LOOP
  (fun (rec595 : Int × snapshot_encoder → Option (List UInt8)) (s596 : Int × snapshot_encoder) =>
  Let (decide (s596.fst < x594)) fun (x597 : Bool) =>
  if x597 = true then
  Chk ((0 : Int) ≤ s596.fst ∧ s596.fst < (↑[x1.ReferenceAngle].length : Int))
  (Let (ix [x1.ReferenceAngle] s596.fst) fun (x598 : Int) =>
  Rx.Bind (codec_AppendInt s596.snd.buf x598) fun (r599 : List UInt8) =>
  Let (IntKind.i64.wrap (s596.fst + (1 : Int))) fun (x600 : Int) => rec595 (x600, { buf := r599 : snapshot_encoder }))
  else
  Let (↑[x1.EnableLimit].length : Int) fun (x601 : Int) =>
  LOOP
  (fun (rec602 : Int × snapshot_encoder → Option (List UInt8)) (s603 : Int × snapshot_encoder) =>
  Let (decide (s603.fst < x601)) fun (x604 : Bool) =>
  if x604 = true then
  Chk ((0 : Int) ≤ s603.fst ∧ s603.fst < (↑[x1.EnableLimit].length : Int))
  (Let (ix [x1.EnableLimit] s603.fst) fun (x605 : Bool) =>
  Rx.Bind (codec_AppendBool s603.snd.buf x605) fun (r606 : List UInt8) =>
  Let (IntKind.i64.wrap (s603.fst + (1 : Int))) fun (x607 : Int) => rec602 (x607, { buf := r606 : snapshot_encoder }))
  else
  Let (↑[x1.Lower, x1.Upper].length : Int) fun (x608 : Int) =>
  LOOP
  (fun (rec609 : Int × snapshot_encoder → Option (List UInt8)) (s610 : Int × snapshot_encoder) =>
  Let (decide (s610.fst < x608)) fun (x611 : Bool) =>
  if x611 = true then
  Chk ((0 : Int) ≤ s610.fst ∧ s610.fst < (↑[x1.Lower, x1.Upper].length : Int))
  (Let (ix [x1.Lower, x1.Upper] s610.fst) fun (x612 : Int) =>
  Rx.Bind (codec_AppendInt s610.snd.buf x612) fun (r613 : List UInt8) =>
  Let (IntKind.i64.wrap (s610.fst + (1 : Int))) fun (x614 : Int) => rec609 (x614, { buf := r613 : snapshot_encoder }))
  else
  Let (↑[x1.EnableMotor].length : Int) fun (x615 : Int) =>
  LOOP
  (fun (rec616 : Int × snapshot_encoder → Option (List UInt8)) (s617 : Int × snapshot_encoder) =>
  Let (decide (s617.fst < x615)) fun (x618 : Bool) =>
  if x618 = true then
  Chk ((0 : Int) ≤ s617.fst ∧ s617.fst < (↑[x1.EnableMotor].length : Int))
  (Let (ix [x1.EnableMotor] s617.fst) fun (x619 : Bool) =>
  Rx.Bind (codec_AppendBool s617.snd.buf x619) fun (r620 : List UInt8) =>
  Let (IntKind.i64.wrap (s617.fst + (1 : Int))) fun (x621 : Int) => rec616 (x621, { buf := r620 : snapshot_encoder }))
  else
  Let (↑[x1.MotorSpeed, x1.MaxForce, x1.Softness, x1.BreakForce].length : Int) fun (x622 : Int) =>
  LOOP
  (fun (rec623 : Int × snapshot_encoder → Option (List UInt8)) (s624 : Int × snapshot_encoder) =>
  Let (decide (s624.fst < x622)) fun (x625 : Bool) =>
  if x625 = true then
  Chk ((0 : Int) ≤ s624.fst ∧ s624.fst < (↑[x1.MotorSpeed, x1.MaxForce, x1.Softness, x1.BreakForce].length : Int))
  (Let (ix [x1.MotorSpeed, x1.MaxForce, x1.Softness, x1.BreakForce] s624.fst) fun (x626 : Int) =>
  Rx.Bind (codec_AppendInt s624.snd.buf x626) fun (r627 : List UInt8) =>
  Let (IntKind.i64.wrap (s624.fst + (1 : Int))) fun (x628 : Int) => rec623 (x628, { buf := r627 : snapshot_encoder }))
  else
  Let (↑[x1.CollideConnected].length : Int) fun (x629 : Int) =>
  LOOP
  (fun (rec630 : Int × snapshot_encoder → Option (List UInt8)) (s631 : Int × snapshot_encoder) =>
  Let (decide (s631.fst < x629)) fun (x632 : Bool) =>
  if x632 = true then
  Chk ((0 : Int) ≤ s631.fst ∧ s631.fst < (↑[x1.CollideConnected].length : Int))
  (Let (ix [x1.CollideConnected] s631.fst) fun (x633 : Bool) =>
  Rx.Bind (codec_AppendBool s631.snd.buf x633) fun (r634 : List UInt8) =>
  Let (IntKind.i64.wrap (s631.fst + (1 : Int))) fun (x635 : Int) => rec630 (x635, { buf := r634 : snapshot_encoder }))
  else
  Let (↑[x1.Impulses.fst, x1.Impulses.snd.fst, x1.Impulses.snd.snd.fst, x1.Impulses.snd.snd.snd].length : Int)
  fun (x636 : Int) =>
  LOOP
  (fun (rec637 : Int × snapshot_encoder → Option (List UInt8)) (s638 : Int × snapshot_encoder) =>
  Let (decide (s638.fst < x636)) fun (x639 : Bool) =>
  if x639 = true then
  Chk
  ((0 : Int) ≤ s638.fst ∧
  s638.fst < (↑[x1.Impulses.fst, x1.Impulses.snd.fst, x1.Impulses.snd.snd.fst, x1.Impulses.snd.snd.snd].length : Int))
  (Let (ix [x1.Impulses.fst, x1.Impulses.snd.fst, x1.Impulses.snd.snd.fst, x1.Impulses.snd.snd.snd] s638.fst)
  fun (x640 : Int) =>
  Rx.Bind (codec_AppendInt s638.snd.buf x640) fun (r641 : List UInt8) =>
  Let (IntKind.i64.wrap (s638.fst + (1 : Int))) fun (x642 : Int) => rec637 (x642, { buf := r641 : snapshot_encoder }))
  else some s638.snd.buf)
  fuel ((0 : Int), s631.snd))
  fuel ((0 : Int), s624.snd))
  fuel ((0 : Int), s617.snd))
  fuel ((0 : Int), s610.snd))
  fuel ((0 : Int), s603.snd))
  fuel ((0 : Int), s596.snd))
  fuel ((0 : Int), s589.snd))
  fuel ((0 : Int), s582.snd))
  fuel ((0 : Int), { buf := b0 : snapshot_encoder }))

noncomputable def checksum_update (crc0 : Int) : Option Int :=
  LOOP
  (fun (rec643 : Int × Int → Option Int) (s644 : Int × Int) =>
  Let (decide (s644.snd < (8 : Int))) fun (x645 : Bool) =>
  if x645 = true then
  Join (fun (v646 : Int) => Let (IntKind.i64.wrap (s644.snd + (1 : Int))) fun (x647 : Int) => rec643 (v646, x647))
  fun (j648 : Int → Option Int) =>
  Let (bAnd IntKind.u32 s644.fst (1 : Int)) fun (x649 : Int) =>
  Let (bShr IntKind.u32 s644.fst (1 : Int)) fun (x650 : Int) =>
  Let (x649 == (1 : Int)) fun (x651 : Bool) =>
  if x651 = true then Let (bXor IntKind.u32 x650 (2197175160 : Int)) fun (x652 : Int) => j648 x652 else j648 x650
  else some s644.fst)
  fuel (crc0, (0 : Int))

noncomputable def checksum_Seal (b0 : (List UInt8)) : Option (List UInt8) :=
  sealH b0

noncomputable def recording_Encode (r0 : (List (List Input))) : Option ((List UInt8) × Int) :=
  Rx.Bind (recording_Validate r0) fun (r653 : Int) =>
  Let (r653 != (0 : Int)) fun (x654 : Bool) =>
  if x654 = true then some ([], (25 : Int))
  else
  Let (↑r0.length : Int) fun (x655 : Int) =>
  Rx.Bind (codec_AppendInt [] x655) fun (r656 : List UInt8) =>
  Let (↑r0.length : Int) fun (x657 : Int) =>
  LOOP
  (fun (rec658 : List UInt8 × Int → Option (List UInt8 × Int)) (s659 : List UInt8 × Int) =>
  Let (decide (s659.snd < x657)) fun (x660 : Bool) =>
  if x660 = true then
  Chk ((0 : Int) ≤ s659.snd ∧ s659.snd < (↑r0.length : Int))
  (Let (ix r0 s659.snd) fun (x661 : List Input) =>
  Let (↑x661.length : Int) fun (x662 : Int) =>
  Rx.Bind (codec_AppendInt s659.fst x662) fun (r663 : List UInt8) =>
  Let (↑x661.length : Int) fun (x664 : Int) =>
  LOOP
  (fun (rec665 : List UInt8 × Int → Option (List UInt8 × Int)) (s666 : List UInt8 × Int) =>
  Let (decide (s666.snd < x664)) fun (x667 : Bool) =>
  if x667 = true then
  Chk ((0 : Int) ≤ s666.snd ∧ s666.snd < (↑x661.length : Int))
  (Let (ix x661 s666.snd) fun (x668 : Input) =>
  Rx.Bind (codec_AppendInt s666.fst x668.Kind) fun (r669 : List UInt8) =>
  Rx.Bind (codec_AppendInt r669 x668.ID) fun (r670 : List UInt8) =>
  Rx.Bind (codec_AppendVec r670 x668.Vec) fun (r671 : List UInt8) =>
  Rx.Bind (codec_AppendInt r671 x668.Value) fun (r672 : List UInt8) =>
  Rx.Bind (snapshot_AppendBody r672 x668.Body) fun (r673 : List UInt8) =>
  Rx.Bind (snapshot_AppendJoint r673 x668.Joint) fun (r674 : List UInt8) =>
  Let (IntKind.i64.wrap (s666.snd + (1 : Int))) fun (x675 : Int) => rec665 (r674, x675))
  else Let (IntKind.i64.wrap (s659.snd + (1 : Int))) fun (x676 : Int) => rec658 (s666.fst, x676))
  fuel (r663, (0 : Int)))
  else Rx.Bind (checksum_Seal s659.fst) fun (r677 : List UInt8) => some (r677, (0 : Int)))
  fuel (r656, (0 : Int))

noncomputable def checksum_Open (b0 : (List UInt8)) : Option ((List UInt8) × Int) :=
  Let (↑b0.length : Int) fun (x678 : Int) =>
  Let (IntKind.i64.wrap (x678 - (4 : Int))) fun (x679 : Int) =>
  Let (decide (x679 < (0 : Int))) fun (x680 : Bool) =>
  if x680 = true then some ([], (4 : Int))
  else
  Chk ((0 : Int) ≤ x679 ∧ x679 ≤ (↑b0.length : Int))
  (Let (List.take x679.toNat b0) fun (x681 : List UInt8) =>
  Rx.Bind (checksum_Seal x681) fun (r682 : List UInt8) =>
  Let (r682 != b0) fun (x683 : Bool) =>
  if x683 = true then some ([], (22 : Int))
  else
  Chk ((0 : Int) ≤ x679 ∧ x679 ≤ (↑b0.length : Int))
  (Let (List.take x679.toNat b0) fun (x684 : List UInt8) =>
  Chk (x684.length * (1 : Nat) ≤ (140737488355328 : Nat)) (some (x684, (0 : Int)))))

noncomputable def codec_readByte (b0 : (List UInt8)) (at1 : Int) : Option (UInt8 × Int) :=
  Let (decide (at1 < (0 : Int))) fun (x685 : Bool) =>
  Let (↑b0.length : Int) fun (x686 : Int) =>
  Let (decide (at1 > x686)) fun (x687 : Bool) =>
  Let (bif x685 then true else x687) fun (x688 : Bool) =>
  if x688 = true then some (toByte (0 : Int), (2 : Int))
  else
  Let (↑b0.length : Int) fun (x689 : Int) =>
  Let (at1 == x689) fun (x690 : Bool) =>
  if x690 = true then some (toByte (0 : Int), (4 : Int))
  else Chk ((0 : Int) ≤ at1 ∧ at1 < (↑b0.length : Int)) (Let (ix b0 at1) fun (x691 : UInt8) => some (x691, (0 : Int)))

noncomputable def codec_ReadInt (b0 : (List UInt8)) (at1 : Int) : Option (Int × Int × Int) :=
  Rx.Bind (codec_readByte b0 at1) fun (r692 : UInt8 × Int) =>
  Let (r692.snd != (0 : Int)) fun (x693 : Bool) =>
  if x693 = true then some ((0 : Int), (0 : Int), r692.snd)
  else
  Let (↑(UInt8.toNat r692.fst) : Int) fun (x694 : Int) =>
  Let (decide (toByte (16 : Int) < r692.fst)) fun (x695 : Bool) =>
  Join
  (fun (v696 : Int) =>
  Let (decide (v696 > (8 : Int))) fun (x697 : Bool) =>
  if x697 = true then some ((0 : Int), (0 : Int), (3 : Int))
  else
  Let (IntKind.i64.wrap (at1 + (1 : Int))) fun (x698 : Int) =>
  Chk ((0 : Int) ≤ x698 ∧ x698 ≤ (↑b0.length : Int))
  (Let (List.drop x698.toNat b0) fun (x699 : List UInt8) =>
  Let (↑x699.length : Int) fun (x700 : Int) =>
  Let (decide (x700 < v696)) fun (x701 : Bool) =>
  if x701 = true then some ((0 : Int), (0 : Int), (4 : Int))
  else
  Chk ((0 : Int) ≤ v696 ∧ v696 ≤ (↑x699.length : Int))
  (Let (List.take v696.toNat x699) fun (x702 : List UInt8) =>
  Let (↑x702.length : Int) fun (x703 : Int) =>
  LOOP
  (fun (rec704 : Int × Int → Option (Int × Int × Int)) (s705 : Int × Int) =>
  Let (decide (s705.snd < x703)) fun (x706 : Bool) =>
  if x706 = true then
  Chk ((0 : Int) ≤ s705.snd ∧ s705.snd < (↑x702.length : Int))
  (Let (ix x702 s705.snd) fun (x707 : UInt8) =>
  Let (bShl IntKind.u64 s705.fst (8 : Int)) fun (x708 : Int) =>
  Let (↑x707.toNat : Int) fun (x709 : Int) =>
  Let (bOr IntKind.u64 x708 x709) fun (x710 : Int) =>
  Let (IntKind.i64.wrap (s705.snd + (1 : Int))) fun (x711 : Int) => rec704 (x710, x711))
  else
  Let (IntKind.i64.wrap s705.fst) fun (x712 : Int) =>
  Join
  (fun (v713 : Int) =>
  Let (decide (v696 > (0 : Int))) fun (x714 : Bool) =>
  Chk ((x714 == true) = true → (0 : Int) ≤ (0 : Int) ∧ (0 : Int) < (↑x699.length : Int))
  (Let (ix x699 (0 : Int)) fun (x715 : UInt8) =>
  Let (x715 == toByte (0 : Int)) fun (x716 : Bool) =>
  Let (bif x714 then x716 else false) fun (x717 : Bool) =>
  Rx.Bind (if (x717 == false) = true then codec_magnitude v713 else some default) fun (r718 : Int) =>
  Let (r718 != s705.fst) fun (x719 : Bool) =>
  Let (bif x717 then true else x719) fun (x720 : Bool) =>
  Let (decide (v713 < (0 : Int))) fun (x721 : Bool) =>
  Let (x721 != x695) fun (x722 : Bool) =>
  Let (bif x720 then true else x722) fun (x723 : Bool) =>
  if x723 = true then some ((0 : Int), (0 : Int), (3 : Int))
  else
  Let (IntKind.i64.wrap (at1 + (1 : Int))) fun (x724 : Int) =>
  Let (IntKind.i64.wrap (x724 + v696)) fun (x725 : Int) => some (v713, x725, (0 : Int))))
  fun (j726 : Int → Option (Int × Int × Int)) =>
  if x695 = true then Let (IntKind.i64.wrap ((0 : Int) - x712)) fun (x727 : Int) => j726 x727 else j726 x712)
  fuel ((0 : Int), (0 : Int)))))
  fun (j728 : Int → Option (Int × Int × Int)) =>
  if x695 = true then Let (IntKind.i64.wrap (x694 - (16 : Int))) fun (x729 : Int) => j728 x729 else j728 x694

noncomputable def codec_ReadVec (b0 : (List UInt8)) (at1 : Int) : Option (Vec × Int × Int) :=
  Rx.Bind (codec_ReadInt b0 at1) fun (r730 : Int × Int × Int) =>
  Let (r730.snd.snd != (0 : Int)) fun (x731 : Bool) =>
  if x731 = true then some ({ X := (0 : Int), Y := (0 : Int) : Vec }, (0 : Int), r730.snd.snd)
  else
  Rx.Bind (codec_ReadInt b0 r730.snd.fst) fun (r732 : Int × Int × Int) =>
  Let (r732.snd.snd != (0 : Int)) fun (x733 : Bool) =>
  if x733 = true then some ({ X := (0 : Int), Y := (0 : Int) : Vec }, (0 : Int), r732.snd.snd)
  else some ({ X := r730.fst, Y := r732.fst : Vec }, r732.snd.fst, (0 : Int))

noncomputable def codec_ReadBool (b0 : (List UInt8)) (at1 : Int) : Option (Bool × Int × Int) :=
  Rx.Bind (codec_readByte b0 at1) fun (r735 : UInt8 × Int) =>
  Let (r735.snd != (0 : Int)) fun (x736 : Bool) =>
  if x736 = true then some (false, (0 : Int), r735.snd)
  else
  Let (decide (toByte (1 : Int) < r735.fst)) fun (x737 : Bool) =>
  if x737 = true then some (false, (0 : Int), (3 : Int))
  else
  Let (r735.fst == toByte (1 : Int)) fun (x738 : Bool) =>
  Let (IntKind.i64.wrap (at1 + (1 : Int))) fun (x739 : Int) => some (x738, x739, (0 : Int))

noncomputable def recording_Decode (b0 : (List UInt8)) : Option ((List (List Input)) × Int) :=
  recDecode b0

noncomputable def input_Equal (a0 : Input) (b1 : Input) : Option Bool :=
  Let (a0.Kind == b1.Kind) fun (x741 : Bool) =>
  Let (a0.ID == b1.ID) fun (x742 : Bool) =>
  Let (bif x741 then x742 else false) fun (x743 : Bool) =>
  Let (decide (a0.Vec.X = b1.Vec.X) && decide (a0.Vec.Y = b1.Vec.Y)) fun (x744 : Bool) =>
  Let (bif x743 then x744 else false) fun (x745 : Bool) =>
  Let (a0.Value == b1.Value) fun (x746 : Bool) =>
  Let (bif x745 then x746 else false) fun (x747 : Bool) =>
  Rx.Bind (if (x747 == true) = true then body_Equal a0.Body b1.Body else some default) fun (r748 : Bool) =>
  Let (bif x747 then r748 else false) fun (x749 : Bool) =>
  Let
  (decide (a0.Joint.ID = b1.Joint.ID) &&
  (decide (a0.Joint.Kind = b1.Joint.Kind) &&
  (decide (a0.Joint.BodyA = b1.Joint.BodyA) &&
  (decide (a0.Joint.BodyB = b1.Joint.BodyB) &&
  (decide (a0.Joint.AnchorA.X = b1.Joint.AnchorA.X) && decide (a0.Joint.AnchorA.Y = b1.Joint.AnchorA.Y) &&
  (decide (a0.Joint.AnchorB.X = b1.Joint.AnchorB.X) && decide (a0.Joint.AnchorB.Y = b1.Joint.AnchorB.Y) &&
  (decide (a0.Joint.Axis.X = b1.Joint.Axis.X) && decide (a0.Joint.Axis.Y = b1.Joint.Axis.Y) &&
  (decide (a0.Joint.ReferenceAngle = b1.Joint.ReferenceAngle) &&
  (decide (a0.Joint.EnableLimit = b1.Joint.EnableLimit) &&
  (decide (a0.Joint.Lower = b1.Joint.Lower) &&
  (decide (a0.Joint.Upper = b1.Joint.Upper) &&
  (decide (a0.Joint.EnableMotor = b1.Joint.EnableMotor) &&
  (decide (a0.Joint.MotorSpeed = b1.Joint.MotorSpeed) &&
  (decide (a0.Joint.MaxForce = b1.Joint.MaxForce) &&
  (decide (a0.Joint.Softness = b1.Joint.Softness) &&
  (decide (a0.Joint.BreakForce = b1.Joint.BreakForce) &&
  (decide (a0.Joint.CollideConnected = b1.Joint.CollideConnected) &&
  (decide (a0.Joint.Impulses.fst = b1.Joint.Impulses.fst) &&
  (decide (a0.Joint.Impulses.snd.fst = b1.Joint.Impulses.snd.fst) &&
  (decide (a0.Joint.Impulses.snd.snd.fst = b1.Joint.Impulses.snd.snd.fst) &&
  decide (a0.Joint.Impulses.snd.snd.snd = b1.Joint.Impulses.snd.snd.snd)))))))))))))))))))))
  fun (x750 : Bool) => Let (bif x749 then x750 else false) fun (x751 : Bool) => some x751

noncomputable def recording_Equal (a0 : (List (List Input))) (b1 : (List (List Input))) : Option Bool :=
  Let (↑a0.length : Int) fun (x752 : Int) =>
  Let (↑b1.length : Int) fun (x753 : Int) =>
  Let (x752 != x753) fun (x754 : Bool) =>
  if x754 = true then some false
  else
  Let (↑a0.length : Int) fun (x755 : Int) =>
  LOOP
  (fun (rec756 : Int → Option Bool) (s757 : Int) =>
  Let (decide (s757 < x755)) fun (x758 : Bool) =>
  if x758 = true then
  Chk ((0 : Int) ≤ s757 ∧ s757 < (↑a0.length : Int))
  (Let (ix a0 s757) fun (x759 : List Input) =>
  Let (↑x759.length : Int) fun (x760 : Int) =>
  Chk ((0 : Int) ≤ s757 ∧ s757 < (↑b1.length : Int))
  (Let (ix b1 s757) fun (x761 : List Input) =>
  Let (↑x761.length : Int) fun (x762 : Int) =>
  Let (x760 != x762) fun (x763 : Bool) =>
  if x763 = true then some false
  else
  Chk ((0 : Int) ≤ s757 ∧ s757 < (↑a0.length : Int))
  (Let (ix a0 s757) fun (x764 : List Input) =>
  Let (↑x764.length : Int) fun (x765 : Int) =>
  LOOP
  (fun (rec766 : Int → Option Bool) (s767 : Int) =>
  Let (decide (s767 < x765)) fun (x768 : Bool) =>
  if x768 = true then
  Chk ((0 : Int) ≤ s757 ∧ s757 < (↑a0.length : Int))
  (Let (ix a0 s757) fun (x769 : List Input) =>
  Chk ((0 : Int) ≤ s767 ∧ s767 < (↑x769.length : Int))
  (Let (ix x769 s767) fun (x770 : Input) =>
  Chk ((0 : Int) ≤ s757 ∧ s757 < (↑b1.length : Int))
  (Let (ix b1 s757) fun (x771 : List Input) =>
  Chk ((0 : Int) ≤ s767 ∧ s767 < (↑x771.length : Int))
  (Let (ix x771 s767) fun (x772 : Input) =>
  Rx.Bind (input_Equal x770 x772) fun (r773 : Bool) =>
  Let (!r773) fun (x774 : Bool) =>
  if x774 = true then some false else Let (IntKind.i64.wrap (s767 + (1 : Int))) fun (x775 : Int) => rec766 x775))))
  else Let (IntKind.i64.wrap (s757 + (1 : Int))) fun (x776 : Int) => rec756 x776)
  fuel (0 : Int))))
  else some true)
  fuel (0 : Int)

noncomputable def recording_Slice (r0 : (List (List Input))) (from1 : Int) (to2 : Int) : Option (List (List Input)) :=
  Let (max from1 (0 : Int)) fun (x777 : Int) =>
  Let (↑r0.length : Int) fun (x778 : Int) =>
  Let (min to2 x778) fun (x779 : Int) =>
  Let (decide (x777 ≥ x779)) fun (x780 : Bool) =>
  if x780 = true then some []
  else
  Chk ((0 : Int) ≤ x777 ∧ x777 ≤ x779 ∧ x779 ≤ (↑r0.length : Int))
  (Let (sub r0 x777 x779) fun (x781 : List (List Input)) =>
  Rx.Bind (recording_clone x781) fun (r782 : List (List Input)) => some r782)

noncomputable def caromlaw47_example  : Option Bool :=
  Rx.Bind caromlaw47_impulse fun (r783 : Input) =>
  Rx.Bind (recording_Append [] (1 : Int) [r783]) fun (r784 : List (List Input) × Int) =>
  Rx.Bind (recording_Format r784.fst) fun (r785 : List UInt8 × Int) =>
  Rx.Bind
  (recording_Parse
  #[(102 : UInt8), (114 : UInt8), (97 : UInt8), (109 : UInt8), (101 : UInt8), (10 : UInt8), (105 : UInt8), (109 : UInt8),
  (112 : UInt8), (117 : UInt8), (108 : UInt8), (115 : UInt8), (101 : UInt8), (32 : UInt8), (51 : UInt8), (32 : UInt8),
  (49 : UInt8), (117 : UInt8), (10 : UInt8)].toList)
  fun (r786 : List (List Input) × Int × Int) =>
  Rx.Bind (recording_Encode r784.fst) fun (r787 : List UInt8 × Int) =>
  Rx.Bind (recording_Decode r787.fst) fun (r788 : List (List Input) × Int) =>
  Let (r784.snd == (0 : Int)) fun (x789 : Bool) =>
  Let (↑(List.length r784.fst) : Int) fun (x790 : Int) =>
  Let (x790 == (2 : Int)) fun (x791 : Bool) =>
  Let (bif x789 then x791 else false) fun (x792 : Bool) =>
  Let (r785.snd == (0 : Int)) fun (x793 : Bool) =>
  Let (bif x792 then x793 else false) fun (x794 : Bool) =>
  Let
  (r785.fst ==
  #[(102 : UInt8), (114 : UInt8), (97 : UInt8), (109 : UInt8), (101 : UInt8), (10 : UInt8), (102 : UInt8), (114 : UInt8),
  (97 : UInt8), (109 : UInt8), (101 : UInt8), (10 : UInt8), (105 : UInt8), (109 : UInt8), (112 : UInt8), (117 : UInt8),
  (108 : UInt8), (115 : UInt8), (101 : UInt8), (32 : UInt8), (51 : UInt8), (32 : UInt8), (49 : UInt8), (117 : UInt8),
  (32 : UInt8), (48 : UInt8), (10 : UInt8)].toList)
  fun (x795 : Bool) =>
  Let (bif x794 then x795 else false) fun (x796 : Bool) =>
  Let (r786.snd.fst == (2 : Int)) fun (x797 : Bool) =>
  Let (bif x796 then x797 else false) fun (x798 : Bool) =>
  Let (r786.snd.snd == (27 : Int)) fun (x799 : Bool) =>
  Let (bif x798 then x799 else false) fun (x800 : Bool) =>
  Let (r787.snd == (0 : Int)) fun (x801 : Bool) =>
  Let (bif x800 then x801 else false) fun (x802 : Bool) =>
  Let (r788.snd == (0 : Int)) fun (x803 : Bool) =>
  Let (bif x802 then x803 else false) fun (x804 : Bool) =>
  Rx.Bind (if (x804 == true) = true then recording_Equal r784.fst r788.fst else some default) fun (r805 : Bool) =>
  Let (bif x804 then r805 else false) fun (x806 : Bool) =>
  Rx.Bind (if (x806 == true) = true then recording_InputsAt r784.fst (1 : Int) else some default)
  fun (r807 : List Input) =>
  Let (↑r807.length : Int) fun (x808 : Int) =>
  Let (x808 == (1 : Int)) fun (x809 : Bool) =>
  Let (bif x806 then x809 else false) fun (x810 : Bool) =>
  Rx.Bind (if (x810 == true) = true then recording_Slice r784.fst (1 : Int) (9 : Int) else some default)
  fun (r811 : List (List Input)) =>
  Let (↑r811.length : Int) fun (x812 : Int) =>
  Let (x812 == (1 : Int)) fun (x813 : Bool) => Let (bif x810 then x813 else false) fun (x814 : Bool) => some x814

noncomputable def caromref12_EqualVecs (a0 : (List Vec)) (b1 : (List Vec)) : Option Bool :=
  Let (↑a0.length : Int) fun (x815 : Int) =>
  Let (↑b1.length : Int) fun (x816 : Int) =>
  Let (x815 != x816) fun (x817 : Bool) =>
  if x817 = true then some false
  else
  LOOP
  (fun (rec818 : Int → Option Bool) (s819 : Int) =>
  Let (↑a0.length : Int) fun (x820 : Int) =>
  Let (decide (s819 < x820)) fun (x821 : Bool) =>
  if x821 = true then
  Chk ((0 : Int) ≤ s819 ∧ s819 < (↑a0.length : Int))
  (Let (ix a0 s819) fun (x822 : Vec) =>
  Chk ((0 : Int) ≤ s819 ∧ s819 < (↑b1.length : Int))
  (Let (ix b1 s819) fun (x823 : Vec) =>
  Let (!(decide (x822.X = x823.X) && decide (x822.Y = x823.Y))) fun (x824 : Bool) =>
  if x824 = true then some false else Let (IntKind.i64.wrap (s819 + (1 : Int))) fun (x825 : Int) => rec818 x825))
  else some true)
  fuel (0 : Int)

noncomputable def caromref12_Equal (a0 : Shape) (b1 : Shape) : Option Bool :=
  Let (a0.Kind == b1.Kind) fun (x826 : Bool) =>
  Let (a0.Radius == b1.Radius) fun (x827 : Bool) =>
  Let (bif x826 then x827 else false) fun (x828 : Bool) =>
  Rx.Bind (if (x828 == true) = true then caromref12_EqualVecs a0.Vertices b1.Vertices else some default)
  fun (r829 : Bool) => Let (bif x828 then r829 else false) fun (x830 : Bool) => some x830

noncomputable def caromref23_EqualFixture (a0 : Fixture) (b1 : Fixture) : Option Bool :=
  Rx.Bind (caromref12_Equal a0.Shape b1.Shape) fun (r831 : Bool) =>
  Let (a0.Density == b1.Density) fun (x832 : Bool) =>
  Let (bif r831 then x832 else false) fun (x833 : Bool) =>
  Let (a0.Friction == b1.Friction) fun (x834 : Bool) =>
  Let (bif x833 then x834 else false) fun (x835 : Bool) =>
  Let (a0.Restitution == b1.Restitution) fun (x836 : Bool) =>
  Let (bif x835 then x836 else false) fun (x837 : Bool) =>
  Let (a0.Sensor == b1.Sensor) fun (x838 : Bool) =>
  Let (bif x837 then x838 else false) fun (x839 : Bool) =>
  Let (a0.Category == b1.Category) fun (x840 : Bool) =>
  Let (bif x839 then x840 else false) fun (x841 : Bool) =>
  Let (a0.Mask == b1.Mask) fun (x842 : Bool) =>
  Let (bif x841 then x842 else false) fun (x843 : Bool) =>
  Let (a0.Group == b1.Group) fun (x844 : Bool) => Let (bif x843 then x844 else false) fun (x845 : Bool) => some x845

noncomputable def caromref23_Equal (a0 : Body) (b1 : Body) : Option Bool :=
  Let (↑a0.Fixtures.length : Int) fun (x846 : Int) =>
  Let (↑b1.Fixtures.length : Int) fun (x847 : Int) =>
  Let (x846 != x847) fun (x848 : Bool) =>
  if x848 = true then some false
  else
  LOOP
  (fun (rec849 : Int → Option Bool) (s850 : Int) =>
  Let (↑a0.Fixtures.length : Int) fun (x851 : Int) =>
  Let (decide (s850 < x851)) fun (x852 : Bool) =>
  Let (↑b1.Fixtures.length : Int) fun (x853 : Int) =>
  Let (decide (s850 < x853)) fun (x854 : Bool) =>
  Let (bif x852 then x854 else false) fun (x855 : Bool) =>
  if x855 = true then
  Chk ((0 : Int) ≤ s850 ∧ s850 < (↑a0.Fixtures.length : Int))
  (Let (ix a0.Fixtures s850) fun (x856 : Fixture) =>
  Chk ((0 : Int) ≤ s850 ∧ s850 < (↑b1.Fixtures.length : Int))
  (Let (ix b1.Fixtures s850) fun (x857 : Fixture) =>
  Rx.Bind (caromref23_EqualFixture x856 x857) fun (r858 : Bool) =>
  Let (!r858) fun (x859 : Bool) =>
  if x859 = true then some false else Let (IntKind.i64.wrap (s850 + (1 : Int))) fun (x860 : Int) => rec849 x860))
  else
  Let (a0.ID != b1.ID) fun (x861 : Bool) =>
  Let (a0.Kind != b1.Kind) fun (x862 : Bool) =>
  Let (bif x861 then true else x862) fun (x863 : Bool) =>
  Let
  (!(decide (a0.Transform.Position.X = b1.Transform.Position.X) &&
  decide (a0.Transform.Position.Y = b1.Transform.Position.Y) &&
  decide (a0.Transform.Angle = b1.Transform.Angle)))
  fun (x864 : Bool) =>
  Let (bif x863 then true else x864) fun (x865 : Bool) =>
  Let (!(decide (a0.Velocity.X = b1.Velocity.X) && decide (a0.Velocity.Y = b1.Velocity.Y))) fun (x866 : Bool) =>
  Let (bif x865 then true else x866) fun (x867 : Bool) =>
  Let (a0.AngularVelocity != b1.AngularVelocity) fun (x868 : Bool) =>
  Let (bif x867 then true else x868) fun (x869 : Bool) =>
  Let (!(decide (a0.Force.X = b1.Force.X) && decide (a0.Force.Y = b1.Force.Y))) fun (x870 : Bool) =>
  Let (bif x869 then true else x870) fun (x871 : Bool) =>
  Let (a0.Torque != b1.Torque) fun (x872 : Bool) =>
  Let (bif x871 then true else x872) fun (x873 : Bool) =>
  if x873 = true then some false
  else
  Let (a0.LinearDamping == b1.LinearDamping) fun (x874 : Bool) =>
  Let (a0.AngularDamping == b1.AngularDamping) fun (x875 : Bool) =>
  Let (bif x874 then x875 else false) fun (x876 : Bool) =>
  Let (a0.GravityScale == b1.GravityScale) fun (x877 : Bool) =>
  Let (bif x876 then x877 else false) fun (x878 : Bool) =>
  Let (a0.Bullet == b1.Bullet) fun (x879 : Bool) =>
  Let (bif x878 then x879 else false) fun (x880 : Bool) =>
  Let (a0.FixedRotation == b1.FixedRotation) fun (x881 : Bool) =>
  Let (bif x880 then x881 else false) fun (x882 : Bool) =>
  Let (a0.NoSleep == b1.NoSleep) fun (x883 : Bool) =>
  Let (bif x882 then x883 else false) fun (x884 : Bool) =>
  Let (a0.Asleep == b1.Asleep) fun (x885 : Bool) =>
  Let (bif x884 then x885 else false) fun (x886 : Bool) =>
  Let (a0.IdleSteps == b1.IdleSteps) fun (x887 : Bool) =>
  Let (bif x886 then x887 else false) fun (x888 : Bool) => some x888)
  fuel (0 : Int)

noncomputable def caromref43_Equal (a0 : Input) (b1 : Input) : Option Bool :=
  Let (a0.Kind == b1.Kind) fun (x889 : Bool) =>
  Let (a0.ID == b1.ID) fun (x890 : Bool) =>
  Let (bif x889 then x890 else false) fun (x891 : Bool) =>
  Let (decide (a0.Vec.X = b1.Vec.X) && decide (a0.Vec.Y = b1.Vec.Y)) fun (x892 : Bool) =>
  Let (bif x891 then x892 else false) fun (x893 : Bool) =>
  Let (a0.Value == b1.Value) fun (x894 : Bool) =>
  Let (bif x893 then x894 else false) fun (x895 : Bool) =>
  Let
  (decide (a0.Joint.ID = b1.Joint.ID) &&
  (decide (a0.Joint.Kind = b1.Joint.Kind) &&
  (decide (a0.Joint.BodyA = b1.Joint.BodyA) &&
  (decide (a0.Joint.BodyB = b1.Joint.BodyB) &&
  (decide (a0.Joint.AnchorA.X = b1.Joint.AnchorA.X) && decide (a0.Joint.AnchorA.Y = b1.Joint.AnchorA.Y) &&
  (decide (a0.Joint.AnchorB.X = b1.Joint.AnchorB.X) && decide (a0.Joint.AnchorB.Y = b1.Joint.AnchorB.Y) &&
  (decide (a0.Joint.Axis.X = b1.Joint.Axis.X) && decide (a0.Joint.Axis.Y = b1.Joint.Axis.Y) &&
  (decide (a0.Joint.ReferenceAngle = b1.Joint.ReferenceAngle) &&
  (decide (a0.Joint.EnableLimit = b1.Joint.EnableLimit) &&
  (decide (a0.Joint.Lower = b1.Joint.Lower) &&
  (decide (a0.Joint.Upper = b1.Joint.Upper) &&
  (decide (a0.Joint.EnableMotor = b1.Joint.EnableMotor) &&
  (decide (a0.Joint.MotorSpeed = b1.Joint.MotorSpeed) &&
  (decide (a0.Joint.MaxForce = b1.Joint.MaxForce) &&
  (decide (a0.Joint.Softness = b1.Joint.Softness) &&
  (decide (a0.Joint.BreakForce = b1.Joint.BreakForce) &&
  (decide (a0.Joint.CollideConnected = b1.Joint.CollideConnected) &&
  (decide (a0.Joint.Impulses.fst = b1.Joint.Impulses.fst) &&
  (decide (a0.Joint.Impulses.snd.fst = b1.Joint.Impulses.snd.fst) &&
  (decide (a0.Joint.Impulses.snd.snd.fst = b1.Joint.Impulses.snd.snd.fst) &&
  decide (a0.Joint.Impulses.snd.snd.snd = b1.Joint.Impulses.snd.snd.snd)))))))))))))))))))))
  fun (x896 : Bool) =>
  Let (bif x895 then x896 else false) fun (x897 : Bool) =>
  Rx.Bind (if (x897 == true) = true then caromref23_Equal a0.Body b1.Body else some default) fun (r898 : Bool) =>
  Let (bif x897 then r898 else false) fun (x899 : Bool) => some x899

noncomputable def caromref47_EqualInputs (a0 : (List Input)) (b1 : (List Input)) : Option Bool :=
  Let (↑a0.length : Int) fun (x900 : Int) =>
  Let (↑b1.length : Int) fun (x901 : Int) =>
  Let (x900 != x901) fun (x902 : Bool) =>
  if x902 = true then some false
  else
  LOOP
  (fun (rec903 : Int → Option Bool) (s904 : Int) =>
  Let (↑a0.length : Int) fun (x905 : Int) =>
  Let (decide (s904 < x905)) fun (x906 : Bool) =>
  Let (↑b1.length : Int) fun (x907 : Int) =>
  Let (decide (s904 < x907)) fun (x908 : Bool) =>
  Let (bif x906 then x908 else false) fun (x909 : Bool) =>
  if x909 = true then
  Chk ((0 : Int) ≤ s904 ∧ s904 < (↑a0.length : Int))
  (Let (ix a0 s904) fun (x910 : Input) =>
  Chk ((0 : Int) ≤ s904 ∧ s904 < (↑b1.length : Int))
  (Let (ix b1 s904) fun (x911 : Input) =>
  Rx.Bind (caromref43_Equal x910 x911) fun (r912 : Bool) =>
  Let (!r912) fun (x913 : Bool) =>
  if x913 = true then some false else Let (IntKind.i64.wrap (s904 + (1 : Int))) fun (x914 : Int) => rec903 x914))
  else some true)
  fuel (0 : Int)

noncomputable def caromref47_Equal (a0 : (List (List Input))) (b1 : (List (List Input))) : Option Bool :=
  Let (↑a0.length : Int) fun (x915 : Int) =>
  Let (↑b1.length : Int) fun (x916 : Int) =>
  Let (x915 != x916) fun (x917 : Bool) =>
  if x917 = true then some false
  else
  LOOP
  (fun (rec918 : Int → Option Bool) (s919 : Int) =>
  Let (↑a0.length : Int) fun (x920 : Int) =>
  Let (decide (s919 < x920)) fun (x921 : Bool) =>
  Let (↑b1.length : Int) fun (x922 : Int) =>
  Let (decide (s919 < x922)) fun (x923 : Bool) =>
  Let (bif x921 then x923 else false) fun (x924 : Bool) =>
  if x924 = true then
  Chk ((0 : Int) ≤ s919 ∧ s919 < (↑a0.length : Int))
  (Let (ix a0 s919) fun (x925 : List Input) =>
  Chk ((0 : Int) ≤ s919 ∧ s919 < (↑b1.length : Int))
  (Let (ix b1 s919) fun (x926 : List Input) =>
  Rx.Bind (caromref47_EqualInputs x925 x926) fun (r927 : Bool) =>
  Let (!r927) fun (x928 : Bool) =>
  if x928 = true then some false else Let (IntKind.i64.wrap (s919 + (1 : Int))) fun (x929 : Int) => rec918 x929))
  else some true)
  fuel (0 : Int)

noncomputable def caromref43_UsedFields (k0 : Int) : Option (Bool × Bool × Bool) :=
  Join
  (fun (v996 : Bool) =>
  if v996 = true then some (true, true, false)
  else
  Join
  (fun (v997 : Bool) =>
  if v997 = true then some (true, false, true)
  else
  Join
  (fun (v998 : Bool) =>
  if v998 = true then some (true, true, true)
  else
  Join (fun (v999 : Bool) => if v999 = true then some (true, false, false) else some (false, false, false))
  fun (j1000 : Bool → Option (Bool × Bool × Bool)) =>
  Let (k0 == (6 : Int)) fun (x1001 : Bool) =>
  if x1001 = true then j1000 x1001
  else
  Let (k0 == (10 : Int)) fun (x1002 : Bool) =>
  if x1002 = true then j1000 x1002 else Let (k0 == (12 : Int)) fun (x1003 : Bool) => j1000 x1003)
  fun (j1004 : Bool → Option (Bool × Bool × Bool)) =>
  Let (k0 == (4 : Int)) fun (x1005 : Bool) =>
  if x1005 = true then j1004 x1005 else Let (k0 == (5 : Int)) fun (x1006 : Bool) => j1004 x1006)
  fun (j1007 : Bool → Option (Bool × Bool × Bool)) =>
  Let (k0 == (3 : Int)) fun (x1008 : Bool) =>
  if x1008 = true then j1007 x1008 else Let (k0 == (8 : Int)) fun (x1009 : Bool) => j1007 x1009)
  fun (j1010 : Bool → Option (Bool × Bool × Bool)) =>
  Let (k0 == (1 : Int)) fun (x1011 : Bool) =>
  if x1011 = true then j1010 x1011
  else
  Let (k0 == (2 : Int)) fun (x1012 : Bool) =>
  if x1012 = true then j1010 x1012 else Let (k0 == (7 : Int)) fun (x1013 : Bool) => j1010 x1013

noncomputable def caromref43_unsaturated (n0 : Int) : Option Bool :=
  Let (decide (n0 < (-536870911 : Int))) fun (x1014 : Bool) =>
  Let (decide (n0 > (536870911 : Int))) fun (x1015 : Bool) =>
  Let (bif x1014 then true else x1015) fun (x1016 : Bool) => some x1016

noncomputable def caromref43_Validate (x0 : Input) : Option Int :=
  Let (decide (x0.Kind < (1 : Int))) fun (x1017 : Bool) =>
  Let (decide (x0.Kind > (12 : Int))) fun (x1018 : Bool) =>
  Let (bif x1017 then true else x1018) fun (x1019 : Bool) =>
  if x1019 = true then some (10 : Int)
  else
  Rx.Bind (caromref43_UsedFields x0.Kind) fun (r1020 : Bool × Bool × Bool) =>
  Let (decide (x0.ID < (1 : Int))) fun (x1021 : Bool) =>
  Let (decide (x0.ID > (1099511627776 : Int))) fun (x1022 : Bool) =>
  Let (bif x1021 then true else x1022) fun (x1023 : Bool) =>
  Let (bif r1020.fst then x1023 else false) fun (x1024 : Bool) =>
  Rx.Bind (if (x1024 == false && r1020.snd.fst == true) = true then caromref43_unsaturated x0.Vec.X else some default)
  fun (r1025 : Bool) =>
  Rx.Bind
  (if (x1024 == false && r1020.snd.fst == true && r1025 == false) = true then caromref43_unsaturated x0.Vec.Y
  else some default)
  fun (r1026 : Bool) =>
  Let (bif r1025 then true else r1026) fun (x1027 : Bool) =>
  Let (bif r1020.snd.fst then x1027 else false) fun (x1028 : Bool) =>
  Let (bif x1024 then true else x1028) fun (x1029 : Bool) =>
  Rx.Bind (if (x1029 == false && r1020.snd.snd == true) = true then caromref43_unsaturated x0.Value else some default)
  fun (r1030 : Bool) =>
  Let (bif r1020.snd.snd then r1030 else false) fun (x1031 : Bool) =>
  Let (bif x1029 then true else x1031) fun (x1032 : Bool) =>
  if x1032 = true then some (6 : Int)
  else
  Let (!r1020.fst) fun (x1033 : Bool) =>
  Let (x0.ID != (0 : Int)) fun (x1034 : Bool) =>
  Let (bif x1033 then x1034 else false) fun (x1035 : Bool) =>
  Let (!r1020.snd.fst) fun (x1036 : Bool) =>
  Let (!(decide (x0.Vec.X = (0 : Int)) && decide (x0.Vec.Y = (0 : Int)))) fun (x1037 : Bool) =>
  Let (bif x1036 then x1037 else false) fun (x1038 : Bool) =>
  Let (bif x1035 then true else x1038) fun (x1039 : Bool) =>
  Let (!r1020.snd.snd) fun (x1040 : Bool) =>
  Let (x0.Value != (0 : Int)) fun (x1041 : Bool) =>
  Let (bif x1040 then x1041 else false) fun (x1042 : Bool) =>
  Let (bif x1039 then true else x1042) fun (x1043 : Bool) =>
  Let (x0.Kind != (9 : Int)) fun (x1044 : Bool) =>
  Rx.Bind
  (if (x1043 == false && x1044 == true) = true then
  caromref23_Equal x0.Body
  { ID := (0 : Int), Kind := (0 : Int), Transform := { Position := { X := (0 : Int), Y := (0 : Int) : Vec }, Angle := (0 : Int) : Transform }, Velocity := { X := (0 : Int), Y := (0 : Int) : Vec }, AngularVelocity := (0 : Int), Force := { X := (0 : Int), Y := (0 : Int) : Vec }, Torque := (0 : Int), LinearDamping := (0 : Int), AngularDamping := (0 : Int), GravityScale := (0 : Int), Bullet := false, FixedRotation := false, NoSleep := false, Asleep := false, IdleSteps := (0 : Int), Fixtures := [] : Body }
  else some default)
  fun (r1045 : Bool) =>
  Let (!r1045) fun (x1046 : Bool) =>
  Let (bif x1044 then x1046 else false) fun (x1047 : Bool) =>
  Let (bif x1043 then true else x1047) fun (x1048 : Bool) =>
  Let (x0.Kind != (11 : Int)) fun (x1049 : Bool) =>
  Let
  (!(decide (x0.Joint.ID = (0 : Int)) &&
  (decide (x0.Joint.Kind = (0 : Int)) &&
  (decide (x0.Joint.BodyA = (0 : Int)) &&
  (decide (x0.Joint.BodyB = (0 : Int)) &&
  (decide (x0.Joint.AnchorA.X = (0 : Int)) && decide (x0.Joint.AnchorA.Y = (0 : Int)) &&
  (decide (x0.Joint.AnchorB.X = (0 : Int)) && decide (x0.Joint.AnchorB.Y = (0 : Int)) &&
  (decide (x0.Joint.Axis.X = (0 : Int)) && decide (x0.Joint.Axis.Y = (0 : Int)) &&
  (decide (x0.Joint.ReferenceAngle = (0 : Int)) &&
  (decide (x0.Joint.EnableLimit = false) &&
  (decide (x0.Joint.Lower = (0 : Int)) &&
  (decide (x0.Joint.Upper = (0 : Int)) &&
  (decide (x0.Joint.EnableMotor = false) &&
  (decide (x0.Joint.MotorSpeed = (0 : Int)) &&
  (decide (x0.Joint.MaxForce = (0 : Int)) &&
  (decide (x0.Joint.Softness = (0 : Int)) &&
  (decide (x0.Joint.BreakForce = (0 : Int)) &&
  (decide (x0.Joint.CollideConnected = false) &&
  (decide (x0.Joint.Impulses.fst = (0 : Int)) &&
  (decide (x0.Joint.Impulses.snd.fst = (0 : Int)) &&
  (decide (x0.Joint.Impulses.snd.snd.fst = (0 : Int)) &&
  decide (x0.Joint.Impulses.snd.snd.snd = (0 : Int)))))))))))))))))))))))
  fun (x1050 : Bool) =>
  Let (bif x1049 then x1050 else false) fun (x1051 : Bool) =>
  Let (bif x1048 then true else x1051) fun (x1052 : Bool) => if x1052 = true then some (3 : Int) else some (0 : Int)

noncomputable def caromlaw47_RecordingAppendTwice (r0 : (List (List Input))) (frame1 : Int) (inputs2 : (List Input)) (n3 : UInt8) : Option Bool :=
  Rx.Bind (caromref47_Small r0) fun (r1758 : Bool) =>
  Let (!r1758) fun (x1759 : Bool) =>
  Rx.Bind (if (x1759 == false) = true then caromref47_SmallInputs inputs2 else some default) fun (r1760 : Bool) =>
  Let (!r1760) fun (x1761 : Bool) =>
  Let (bif x1759 then true else x1761) fun (x1762 : Bool) =>
  if x1762 = true then Rx.Bind caromlaw47_example fun (r1763 : Bool) => some r1763
  else
  Let (↑n3.toNat : Int) fun (x1764 : Int) =>
  Let (↑inputs2.length : Int) fun (x1765 : Int) =>
  Let (IntKind.i64.wrap (x1765 + (1 : Int))) fun (x1766 : Int) =>
  Chk (x1766 ≠ (0 : Int))
  (Let (x1764.tmod x1766) fun (x1767 : Int) =>
  Rx.Bind (recording_Append r0 frame1 inputs2) fun (r1768 : List (List Input) × Int) =>
  Let (r1768.snd != (0 : Int)) fun (x1769 : Bool) =>
  if x1769 = true then
  Let (↑(List.length r1768.fst) : Int) fun (x1770 : Int) =>
  Let (x1770 == (0 : Int)) fun (x1771 : Bool) =>
  Rx.Bind (if (x1771 == true) = true then caromlaw47_example else some default) fun (r1772 : Bool) =>
  Let (bif x1771 then r1772 else false) fun (x1773 : Bool) => some x1773
  else
  Chk ((0 : Int) ≤ x1767 ∧ x1767 ≤ (↑inputs2.length : Int))
  (Let (List.take x1767.toNat inputs2) fun (x1774 : List Input) =>
  Rx.Bind (recording_Append r0 frame1 x1774) fun (r1775 : List (List Input) × Int) =>
  Chk ((0 : Int) ≤ x1767 ∧ x1767 ≤ (↑inputs2.length : Int))
  (Let (List.drop x1767.toNat inputs2) fun (x1776 : List Input) =>
  Rx.Bind (recording_Append r1775.fst frame1 x1776) fun (r1777 : List (List Input) × Int) =>
  Let (r1775.snd != (0 : Int)) fun (x1778 : Bool) =>
  Let (r1777.snd != (0 : Int)) fun (x1779 : Bool) =>
  Let (bif x1778 then true else x1779) fun (x1780 : Bool) =>
  Rx.Bind (if (x1780 == false) = true then caromref47_Equal r1777.fst r1768.fst else some default) fun (r1781 : Bool) =>
  Let (!r1781) fun (x1782 : Bool) =>
  Let (bif x1780 then true else x1782) fun (x1783 : Bool) =>
  Rx.Bind (if (x1783 == false) = true then recording_Validate r1768.fst else some default) fun (r1784 : Int) =>
  Let (r1784 != (0 : Int)) fun (x1785 : Bool) =>
  Let (bif x1783 then true else x1785) fun (x1786 : Bool) =>
  Let (↑(List.length r1768.fst) : Int) fun (x1787 : Int) =>
  Let (↑r0.length : Int) fun (x1788 : Int) =>
  Let (IntKind.i64.wrap (frame1 + (1 : Int))) fun (x1789 : Int) =>
  Let (max x1788 x1789) fun (x1790 : Int) =>
  Let (x1787 != x1790) fun (x1791 : Bool) =>
  Let (bif x1786 then true else x1791) fun (x1792 : Bool) =>
  if x1792 = true then some false
  else
  LOOP
  (fun (rec1793 : Int → Option Bool) (s1794 : Int) =>
  Let (↑(List.length r1768.fst) : Int) fun (x1795 : Int) =>
  Let (decide (s1794 < x1795)) fun (x1796 : Bool) =>
  if x1796 = true then
  Let (s1794 != frame1) fun (x1797 : Bool) =>
  Rx.Bind (if (x1797 == true) = true then recording_InputsAt r1768.fst s1794 else some default)
  fun (r1798 : List Input) =>
  Rx.Bind (if (x1797 == true) = true then recording_InputsAt r0 s1794 else some default) fun (r1799 : List Input) =>
  Rx.Bind (if (x1797 == true) = true then caromref47_EqualInputs r1798 r1799 else some default) fun (r1800 : Bool) =>
  Let (!r1800) fun (x1801 : Bool) =>
  Let (bif x1797 then x1801 else false) fun (x1802 : Bool) =>
  if x1802 = true then some false else Let (IntKind.i64.wrap (s1794 + (1 : Int))) fun (x1803 : Int) => rec1793 x1803
  else Rx.Bind caromlaw47_example fun (r1804 : Bool) => some r1804)
  fuel (0 : Int))))

end GoForm
