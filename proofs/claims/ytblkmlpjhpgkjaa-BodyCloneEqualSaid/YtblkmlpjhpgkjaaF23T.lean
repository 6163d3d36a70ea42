/- The types that occur, as plain data. Printed by gen3.py. No conditions. -/
import Derived.Test.YtblkmlpjhpgkjaaQE
import Derived.Test.YtblkmlpjhpgkjaaQE
import Derived.Test.YtblkmlpjhpgkjaaProg
set_option linter.all false
set_option maxRecDepth 100000
open Go Go.Rx Go.Proofs Go.RowKit
namespace GoForm
structure Vec where
  X : Int
  Y : Int
  deriving DecidableEq, Inhabited
structure Transform where
  Position : Vec
  Angle : Int
  deriving DecidableEq, Inhabited
structure Shape where
  Kind : Int
  Radius : Int
  Vertices : (List Vec)
  deriving DecidableEq, Inhabited
structure Fixture where
  Shape : Shape
  Density : Int
  Friction : Int
  Restitution : Int
  Sensor : Bool
  Category : Int
  Mask : Int
  Group : Int
  deriving DecidableEq, Inhabited
structure Body where
  ID : Int
  Kind : Int
  Transform : Transform
  Velocity : Vec
  AngularVelocity : Int
  Force : Vec
  Torque : Int
  LinearDamping : Int
  AngularDamping : Int
  GravityScale : Int
  Bullet : Bool
  FixedRotation : Bool
  NoSleep : Bool
  Asleep : Bool
  IdleSteps : Int
  Fixtures : (List Fixture)
  deriving DecidableEq, Inhabited
structure polygon_triangle where
  e : Vec
  f : Vec
  cross : Int
  deriving DecidableEq, Inhabited
structure MassData where
  Mass : Int
  Center : Vec
  Inertia : Int
  deriving DecidableEq, Inhabited
structure Rot where
  Cos : Int
  Sin : Int
  deriving DecidableEq, Inhabited
structure SolverBody where
  Velocity : Vec
  AngularVelocity : Int
  InvMass : Int
  InvInertia : Int
  deriving DecidableEq, Inhabited
structure AABB where
  Min : Vec
  Max : Vec
  deriving DecidableEq, Inhabited
structure segment_candidate where
  x : Vec
  y : Vec
  deriving DecidableEq, Inhabited
inductive Ix | tint | tVec | tTransform | tbool | tsl_Vec | tShape | tFixture | tsl_Fixture | tBody | tpolygon_triangle | tsl_polygon_triangle | tMassData | tsl_MassData | tRot | tSolverBody | tAABB | tsegment_candidate | tbyte
  deriving DecidableEq
def e_int : Int → AV := ((aInt .i64)).el1
def a_Vec : Ac Vec := aIso (fun x => (x.X, x.Y)) (aPair (aInt .i64) (aInt .i64))
def e_Vec : Vec → AV := (a_Vec).elA
def a_Transform : Ac Transform := aIso (fun x => (x.Position, x.Angle)) (aPair a_Vec (aInt .i64))
def e_Transform : Transform → AV := (a_Transform).elA
def e_bool : Bool → AV := (aBool).el1
def e_sl_Vec : (List Vec) → AV := ((aSl 2 e_Vec)).el1
def a_Shape : Ac Shape := aIso (fun x => (x.Kind, x.Radius, x.Vertices)) (aPair (aInt .i64) (aPair (aInt .i64) (aSl 2 e_Vec)))
def e_Shape : Shape → AV := (a_Shape).elA
def a_Fixture : Ac Fixture := aIso (fun x => (x.Shape, x.Density, x.Friction, x.Restitution, x.Sensor, x.Category, x.Mask, x.Group)) (aPair a_Shape (aPair (aInt .i64) (aPair (aInt .i64) (aPair (aInt .i64) (aPair aBool (aPair (aInt .i64) (aPair (aInt .i64) (aInt .i64))))))))
def e_Fixture : Fixture → AV := (a_Fixture).elA
def e_sl_Fixture : (List Fixture) → AV := ((aSl 10 e_Fixture)).el1
def a_Body : Ac Body := aIso (fun x => (x.ID, x.Kind, x.Transform, x.Velocity, x.AngularVelocity, x.Force, x.Torque, x.LinearDamping, x.AngularDamping, x.GravityScale, x.Bullet, x.FixedRotation, x.NoSleep, x.Asleep, x.IdleSteps, x.Fixtures)) (aPair (aInt .i64) (aPair (aInt .i64) (aPair a_Transform (aPair a_Vec (aPair (aInt .i64) (aPair a_Vec (aPair (aInt .i64) (aPair (aInt .i64) (aPair (aInt .i64) (aPair (aInt .i64) (aPair aBool (aPair aBool (aPair aBool (aPair aBool (aPair (aInt .i64) (aSl 10 e_Fixture))))))))))))))))
def e_Body : Body → AV := (a_Body).elA
def a_polygon_triangle : Ac polygon_triangle := aIso (fun x => (x.e, x.f, x.cross)) (aPair a_Vec (aPair a_Vec (aInt .i64)))
def e_polygon_triangle : polygon_triangle → AV := (a_polygon_triangle).elA
def e_sl_polygon_triangle : (List polygon_triangle) → AV := ((aSl 5 e_polygon_triangle)).el1
def a_MassData : Ac MassData := aIso (fun x => (x.Mass, x.Center, x.Inertia)) (aPair (aInt .i64) (aPair a_Vec (aInt .i64)))
def e_MassData : MassData → AV := (a_MassData).elA
def e_sl_MassData : (List MassData) → AV := ((aSl 4 e_MassData)).el1
def a_Rot : Ac Rot := aIso (fun x => (x.Cos, x.Sin)) (aPair (aInt .i64) (aInt .i64))
def e_Rot : Rot → AV := (a_Rot).elA
def a_SolverBody : Ac SolverBody := aIso (fun x => (x.Velocity, x.AngularVelocity, x.InvMass, x.InvInertia)) (aPair a_Vec (aPair (aInt .i64) (aPair (aInt .i64) (aInt .i64))))
def e_SolverBody : SolverBody → AV := (a_SolverBody).elA
def a_AABB : Ac AABB := aIso (fun x => (x.Min, x.Max)) (aPair a_Vec a_Vec)
def e_AABB : AABB → AV := (a_AABB).elA
def a_segment_candidate : Ac segment_candidate := aIso (fun x => (x.x, x.y)) (aPair a_Vec a_Vec)
def e_segment_candidate : segment_candidate → AV := (a_segment_candidate).elA
def e_byte : UInt8 → AV := (aByte).el1
noncomputable def tb : Tb where
  P := Try.prog
  Ix := Ix
  dec := inferInstance
  T := fun | .tint => Int | .tVec => Vec | .tTransform => Transform | .tbool => Bool | .tsl_Vec => (List Vec) | .tShape => Shape | .tFixture => Fixture | .tsl_Fixture => (List Fixture) | .tBody => Body | .tpolygon_triangle => polygon_triangle | .tsl_polygon_triangle => (List polygon_triangle) | .tMassData => MassData | .tsl_MassData => (List MassData) | .tRot => Rot | .tSolverBody => SolverBody | .tAABB => AABB | .tsegment_candidate => segment_candidate | .tbyte => UInt8
  sz := fun | .tint => 1 | .tVec => 2 | .tTransform => 3 | .tbool => 1 | .tsl_Vec => 1 | .tShape => 3 | .tFixture => 10 | .tsl_Fixture => 1 | .tBody => 20 | .tpolygon_triangle => 5 | .tsl_polygon_triangle => 1 | .tMassData => 4 | .tsl_MassData => 1 | .tRot => 2 | .tSolverBody => 5 | .tAABB => 4 | .tsegment_candidate => 4 | .tbyte => 1
  el := fun | .tint => e_int | .tVec => e_Vec | .tTransform => e_Transform | .tbool => e_bool | .tsl_Vec => e_sl_Vec | .tShape => e_Shape | .tFixture => e_Fixture | .tsl_Fixture => e_sl_Fixture | .tBody => e_Body | .tpolygon_triangle => e_polygon_triangle | .tsl_polygon_triangle => e_sl_polygon_triangle | .tMassData => e_MassData | .tsl_MassData => e_sl_MassData | .tRot => e_Rot | .tSolverBody => e_SolverBody | .tAABB => e_AABB | .tsegment_candidate => e_segment_candidate | .tbyte => e_byte
  look n := find n [(3, Ix.tint), (22, Ix.tint), (34, Ix.tint), (43, Ix.tint), (24, Ix.tVec), (26, Ix.tTransform), (4, Ix.tbool), (35, Ix.tsl_Vec), (37, Ix.tShape), (39, Ix.tFixture), (27, Ix.tsl_Fixture), (29, Ix.tBody), (124, Ix.tpolygon_triangle), (118, Ix.tsl_polygon_triangle), (78, Ix.tMassData), (114, Ix.tsl_MassData), (96, Ix.tRot), (60, Ix.tSolverBody), (48, Ix.tAABB), (112, Ix.tsegment_candidate), (5, Ix.tbyte)]
  byte := some ⟨.tbyte, rfl, rfl, fun _ => rfl⟩
noncomputable def f_Vec : Fc tb Vec := fIso (fun p => ⟨p.1, p.2⟩) (fun x => (x.X, x.Y)) (fPair (fInt .i64) (fInt .i64))
theorem o_Vec : FcOk (tb := tb) a_Vec f_Vec := okIso (fun _ => rfl) (okPair (okInt .i64) (okInt .i64))
noncomputable def f_Transform : Fc tb Transform := fIso (fun p => ⟨p.1, p.2⟩) (fun x => (x.Position, x.Angle)) (fPair f_Vec (fInt .i64))
theorem o_Transform : FcOk (tb := tb) a_Transform f_Transform := okIso (fun _ => rfl) (okPair o_Vec (okInt .i64))
noncomputable def f_Shape : Fc tb Shape := fIso (fun p => ⟨p.1, p.2.1, p.2.2⟩) (fun x => (x.Kind, x.Radius, x.Vertices)) (fPair (fInt .i64) (fPair (fInt .i64) (fSl (tb := tb) .tVec)))
theorem o_Shape : FcOk (tb := tb) a_Shape f_Shape := okIso (fun _ => rfl) (okPair (okInt .i64) (okPair (okInt .i64) (okSl (tb := tb) .tVec)))
noncomputable def f_Fixture : Fc tb Fixture := fIso (fun p => ⟨p.1, p.2.1, p.2.2.1, p.2.2.2.1, p.2.2.2.2.1, p.2.2.2.2.2.1, p.2.2.2.2.2.2.1, p.2.2.2.2.2.2.2⟩) (fun x => (x.Shape, x.Density, x.Friction, x.Restitution, x.Sensor, x.Category, x.Mask, x.Group)) (fPair f_Shape (fPair (fInt .i64) (fPair (fInt .i64) (fPair (fInt .i64) (fPair fBool (fPair (fInt .i64) (fPair (fInt .i64) (fInt .i64))))))))
theorem o_Fixture : FcOk (tb := tb) a_Fixture f_Fixture := okIso (fun _ => rfl) (okPair o_Shape (okPair (okInt .i64) (okPair (okInt .i64) (okPair (okInt .i64) (okPair okBool (okPair (okInt .i64) (okPair (okInt .i64) (okInt .i64))))))))
noncomputable def f_Body : Fc tb Body := fIso (fun p => ⟨p.1, p.2.1, p.2.2.1, p.2.2.2.1, p.2.2.2.2.1, p.2.2.2.2.2.1, p.2.2.2.2.2.2.1, p.2.2.2.2.2.2.2.1, p.2.2.2.2.2.2.2.2.1, p.2.2.2.2.2.2.2.2.2.1, p.2.2.2.2.2.2.2.2.2.2.1, p.2.2.2.2.2.2.2.2.2.2.2.1, p.2.2.2.2.2.2.2.2.2.2.2.2.1, p.2.2.2.2.2.2.2.2.2.2.2.2.2.1, p.2.2.2.2.2.2.2.2.2.2.2.2.2.2.1, p.2.2.2.2.2.2.2.2.2.2.2.2.2.2.2⟩) (fun x => (x.ID, x.Kind, x.Transform, x.Velocity, x.AngularVelocity, x.Force, x.Torque, x.LinearDamping, x.AngularDamping, x.GravityScale, x.Bullet, x.FixedRotation, x.NoSleep, x.Asleep, x.IdleSteps, x.Fixtures)) (fPair (fInt .i64) (fPair (fInt .i64) (fPair f_Transform (fPair f_Vec (fPair (fInt .i64) (fPair f_Vec (fPair (fInt .i64) (fPair (fInt .i64) (fPair (fInt .i64) (fPair (fInt .i64) (fPair fBool (fPair fBool (fPair fBool (fPair fBool (fPair (fInt .i64) (fSl (tb := tb) .tFixture))))))))))))))))
theorem o_Body : FcOk (tb := tb) a_Body f_Body := okIso (fun _ => rfl) (okPair (okInt .i64) (okPair (okInt .i64) (okPair o_Transform (okPair o_Vec (okPair (okInt .i64) (okPair o_Vec (okPair (okInt .i64) (okPair (okInt .i64) (okPair (okInt .i64) (okPair (okInt .i64) (okPair okBool (okPair okBool (okPair okBool (okPair okBool (okPair (okInt .i64) (okSl (tb := tb) .tFixture))))))))))))))))
noncomputable def f_polygon_triangle : Fc tb polygon_triangle := fIso (fun p => ⟨p.1, p.2.1, p.2.2⟩) (fun x => (x.e, x.f, x.cross)) (fPair f_Vec (fPair f_Vec (fInt .i64)))
theorem o_polygon_triangle : FcOk (tb := tb) a_polygon_triangle f_polygon_triangle := okIso (fun _ => rfl) (okPair o_Vec (okPair o_Vec (okInt .i64)))
noncomputable def f_MassData : Fc tb MassData := fIso (fun p => ⟨p.1, p.2.1, p.2.2⟩) (fun x => (x.Mass, x.Center, x.Inertia)) (fPair (fInt .i64) (fPair f_Vec (fInt .i64)))
theorem o_MassData : FcOk (tb := tb) a_MassData f_MassData := okIso (fun _ => rfl) (okPair (okInt .i64) (okPair o_Vec (okInt .i64)))
noncomputable def f_Rot : Fc tb Rot := fIso (fun p => ⟨p.1, p.2⟩) (fun x => (x.Cos, x.Sin)) (fPair (fInt .i64) (fInt .i64))
theorem o_Rot : FcOk (tb := tb) a_Rot f_Rot := okIso (fun _ => rfl) (okPair (okInt .i64) (okInt .i64))
noncomputable def f_SolverBody : Fc tb SolverBody := fIso (fun p => ⟨p.1, p.2.1, p.2.2.1, p.2.2.2⟩) (fun x => (x.Velocity, x.AngularVelocity, x.InvMass, x.InvInertia)) (fPair f_Vec (fPair (fInt .i64) (fPair (fInt .i64) (fInt .i64))))
theorem o_SolverBody : FcOk (tb := tb) a_SolverBody f_SolverBody := okIso (fun _ => rfl) (okPair o_Vec (okPair (okInt .i64) (okPair (okInt .i64) (okInt .i64))))
noncomputable def f_AABB : Fc tb AABB := fIso (fun p => ⟨p.1, p.2⟩) (fun x => (x.Min, x.Max)) (fPair f_Vec f_Vec)
theorem o_AABB : FcOk (tb := tb) a_AABB f_AABB := okIso (fun _ => rfl) (okPair o_Vec o_Vec)
noncomputable def f_segment_candidate : Fc tb segment_candidate := fIso (fun p => ⟨p.1, p.2⟩) (fun x => (x.x, x.y)) (fPair f_Vec f_Vec)
theorem o_segment_candidate : FcOk (tb := tb) a_segment_candidate f_segment_candidate := okIso (fun _ => rfl) (okPair o_Vec o_Vec)
noncomputable def cd : (i : Ix) → Cd tb i
  | .tint => cd1 (tb := tb) (i := Ix.tint) (fInt .i64) (default : Int) true
  | .tVec => cdA (tb := tb) (i := Ix.tVec) f_Vec (default : Vec) true
  | .tTransform => cdA (tb := tb) (i := Ix.tTransform) f_Transform (default : Transform) true
  | .tbool => cd1 (tb := tb) (i := Ix.tbool) fBool (default : Bool) true
  | .tsl_Vec => cd1 (tb := tb) (i := Ix.tsl_Vec) (fSl (tb := tb) .tVec) (default : (List Vec)) false
  | .tShape => cdA (tb := tb) (i := Ix.tShape) f_Shape (default : Shape) false
  | .tFixture => cdA (tb := tb) (i := Ix.tFixture) f_Fixture (default : Fixture) false
  | .tsl_Fixture => cd1 (tb := tb) (i := Ix.tsl_Fixture) (fSl (tb := tb) .tFixture) (default : (List Fixture)) false
  | .tBody => cdA (tb := tb) (i := Ix.tBody) f_Body (default : Body) false
  | .tpolygon_triangle => cdA (tb := tb) (i := Ix.tpolygon_triangle) f_polygon_triangle (default : polygon_triangle) true
  | .tsl_polygon_triangle => cd1 (tb := tb) (i := Ix.tsl_polygon_triangle) (fSl (tb := tb) .tpolygon_triangle) (default : (List polygon_triangle)) false
  | .tMassData => cdA (tb := tb) (i := Ix.tMassData) f_MassData (default : MassData) true
  | .tsl_MassData => cd1 (tb := tb) (i := Ix.tsl_MassData) (fSl (tb := tb) .tMassData) (default : (List MassData)) false
  | .tRot => cdA (tb := tb) (i := Ix.tRot) f_Rot (default : Rot) true
  | .tSolverBody => cdA (tb := tb) (i := Ix.tSolverBody) f_SolverBody (default : SolverBody) true
  | .tAABB => cdA (tb := tb) (i := Ix.tAABB) f_AABB (default : AABB) true
  | .tsegment_candidate => cdA (tb := tb) (i := Ix.tsegment_candidate) f_segment_candidate (default : segment_candidate) true
  | .tbyte => cd1 (tb := tb) (i := Ix.tbyte) fByte (default : UInt8) true
theorem cd_ok : ∀ i : Ix, CdOk (cd i)
  | .tint => ok1 (tb := tb) (i := Ix.tint) (a := (aInt .i64)) (okInt .i64) (fun _ => rfl) rfl rfl (fun _ _ => rfl)
  | .tVec => okA (tb := tb) (i := Ix.tVec) (a := a_Vec) o_Vec (fun _ => rfl) rfl rfl (fun _ _ => rfl)
  | .tTransform => okA (tb := tb) (i := Ix.tTransform) (a := a_Transform) o_Transform (fun _ => rfl) rfl rfl (fun _ _ => rfl)
  | .tbool => ok1 (tb := tb) (i := Ix.tbool) (a := aBool) okBool (fun _ => rfl) rfl rfl (fun _ _ => rfl)
  | .tsl_Vec => ok1 (tb := tb) (i := Ix.tsl_Vec) (a := (aSl 2 e_Vec)) (okSl (tb := tb) .tVec) (fun _ => rfl) rfl rfl (fun h => by cases h)
  | .tShape => okA (tb := tb) (i := Ix.tShape) (a := a_Shape) o_Shape (fun _ => rfl) rfl rfl (fun h => by cases h)
  | .tFixture => okA (tb := tb) (i := Ix.tFixture) (a := a_Fixture) o_Fixture (fun _ => rfl) rfl rfl (fun h => by cases h)
  | .tsl_Fixture => ok1 (tb := tb) (i := Ix.tsl_Fixture) (a := (aSl 10 e_Fixture)) (okSl (tb := tb) .tFixture) (fun _ => rfl) rfl rfl (fun h => by cases h)
  | .tBody => okA (tb := tb) (i := Ix.tBody) (a := a_Body) o_Body (fun _ => rfl) rfl rfl (fun h => by cases h)
  | .tpolygon_triangle => okA (tb := tb) (i := Ix.tpolygon_triangle) (a := a_polygon_triangle) o_polygon_triangle (fun _ => rfl) rfl rfl (fun _ _ => rfl)
  | .tsl_polygon_triangle => ok1 (tb := tb) (i := Ix.tsl_polygon_triangle) (a := (aSl 5 e_polygon_triangle)) (okSl (tb := tb) .tpolygon_triangle) (fun _ => rfl) rfl rfl (fun h => by cases h)
  | .tMassData => okA (tb := tb) (i := Ix.tMassData) (a := a_MassData) o_MassData (fun _ => rfl) rfl rfl (fun _ _ => rfl)
  | .tsl_MassData => ok1 (tb := tb) (i := Ix.tsl_MassData) (a := (aSl 4 e_MassData)) (okSl (tb := tb) .tMassData) (fun _ => rfl) rfl rfl (fun h => by cases h)
  | .tRot => okA (tb := tb) (i := Ix.tRot) (a := a_Rot) o_Rot (fun _ => rfl) rfl rfl (fun _ _ => rfl)
  | .tSolverBody => okA (tb := tb) (i := Ix.tSolverBody) (a := a_SolverBody) o_SolverBody (fun _ => rfl) rfl rfl (fun _ _ => rfl)
  | .tAABB => okA (tb := tb) (i := Ix.tAABB) (a := a_AABB) o_AABB (fun _ => rfl) rfl rfl (fun _ _ => rfl)
  | .tsegment_candidate => okA (tb := tb) (i := Ix.tsegment_candidate) (a := a_segment_candidate) o_segment_candidate (fun _ => rfl) rfl rfl (fun _ _ => rfl)
  | .tbyte => ok1 (tb := tb) (i := Ix.tbyte) (a := aByte) okByte (fun _ => rfl) rfl rfl (fun _ _ => rfl)
theorem mixed : Try.prog.follows .mixedOrders = true := by kernel_rfl
def Vec_beq (x y : Vec) : Bool := (decide (x.X = y.X) && decide (x.Y = y.Y))
def Transform_beq (x y : Transform) : Bool := (Vec_beq x.Position y.Position && decide (x.Angle = y.Angle))
def AABB_beq (x y : AABB) : Bool := (Vec_beq x.Min y.Min && Vec_beq x.Max y.Max)
theorem eqt_24 : EqT Try.prog 24 e_Vec Vec_beq := by
  refine ⟨by kernel_rfl, fun x => [.int .i64 x.X, .int .i64 x.Y], fun x => rfl, fun w x y => ?_⟩
  rw [run_equalIn_struct w 9999 24 _ _ (by kernel_rfl) (by kernel_rfl)]
  simp [Program.fieldsOf, Op.eqFields, go_sem, if_ok, Vec_beq, Try.underlying3, Try.underlying24] <;> grind
theorem eqt_26 : EqT Try.prog 26 e_Transform Transform_beq := by
  refine ⟨by kernel_rfl, fun x => [.int .i64 x.Position.X, .int .i64 x.Position.Y, .int .i64 x.Angle], fun x => rfl, fun w x y => ?_⟩
  rw [run_equalIn_struct w 9999 26 _ _ (by kernel_rfl) (by kernel_rfl)]
  have q0 := fun (d : Nat) (w : Go.World) (xs ys : Array Value) => run_equalIn_struct (P := Try.prog) w d 24 xs ys (by kernel_rfl) (by kernel_rfl)
  simp [Program.fieldsOf, Op.eqFields, go_sem, if_ok, Transform_beq, Vec_beq, Try.underlying3, Try.underlying23, Try.underlying24, Try.underlying26, q0] <;> grind
theorem eqt_48 : EqT Try.prog 48 e_AABB AABB_beq := by
  refine ⟨by kernel_rfl, fun x => [.int .i64 x.Min.X, .int .i64 x.Min.Y, .int .i64 x.Max.X, .int .i64 x.Max.Y], fun x => rfl, fun w x y => ?_⟩
  rw [run_equalIn_struct w 9999 48 _ _ (by kernel_rfl) (by kernel_rfl)]
  have q0 := fun (d : Nat) (w : Go.World) (xs ys : Array Value) => run_equalIn_struct (P := Try.prog) w d 24 xs ys (by kernel_rfl) (by kernel_rfl)
  simp [Program.fieldsOf, Op.eqFields, go_sem, if_ok, AABB_beq, Vec_beq, Try.underlying3, Try.underlying23, Try.underlying24, Try.underlying48, q0] <;> grind
noncomputable def eqs : List (EqE Try.prog tb) := [⟨24, Ix.tVec, Vec_beq, eqt_24⟩, ⟨26, Ix.tTransform, Transform_beq, eqt_26⟩, ⟨48, Ix.tAABB, AABB_beq, eqt_48⟩]
noncomputable def hnds : List (Hnd Try.prog tb) := []
noncomputable def cx (Γ : List (Con Try.prog tb cd)) (J : List (Inl Try.prog tb)) : Ctx Try.prog tb := ⟨cd, cd_ok, Γ, J, eqs, mixed, rfl, hnds⟩
end GoForm
