/- The program's functions compute their plain forms: printed by gen2.py. No conditions. -/
import Derived.Test.YtblkmlpjhpgkjaaCxV
import Derived.Test.YtblkmlpjhpgkjaaF23
import Derived.Test.YtblkmlpjhpgkjaaProg
set_option linter.all false
set_option maxRecDepth 100000
open Go Go.Cx Go.Proofs Go.RowKit
namespace GoForm
theorem mixed : Try.prog.follows .mixedOrders = true := by kernel_rfl
def Vec.cells (x : Vec) : List AV := [(iAV x.X), (iAV x.Y)]
def Vec.av (x : Vec) : AV := .agg (Vec.cells x)
def Transform.cells (x : Transform) : List AV := [(iAV x.Position.X), (iAV x.Position.Y), (iAV x.Angle)]
def Transform.av (x : Transform) : AV := .agg (Transform.cells x)
def Shape.cells (x : Shape) : List AV := [(iAV x.Kind), (iAV x.Radius), ((slAV 2 Vec.av) x.Vertices)]
def Shape.av (x : Shape) : AV := .agg (Shape.cells x)
def Fixture.cells (x : Fixture) : List AV := [(iAV x.Shape.Kind), (iAV x.Shape.Radius), ((slAV 2 Vec.av) x.Shape.Vertices), (iAV x.Density), (iAV x.Friction), (iAV x.Restitution), (boolAV x.Sensor), (iAV x.Category), (iAV x.Mask), (iAV x.Group)]
def Fixture.av (x : Fixture) : AV := .agg (Fixture.cells x)
def Body.cells (x : Body) : List AV := [(iAV x.ID), (iAV x.Kind), (iAV x.Transform.Position.X), (iAV x.Transform.Position.Y), (iAV x.Transform.Angle), (iAV x.Velocity.X), (iAV x.Velocity.Y), (iAV x.AngularVelocity), (iAV x.Force.X), (iAV x.Force.Y), (iAV x.Torque), (iAV x.LinearDamping), (iAV x.AngularDamping), (iAV x.GravityScale), (boolAV x.Bullet), (boolAV x.FixedRotation), (boolAV x.NoSleep), (boolAV x.Asleep), (iAV x.IdleSteps), ((slAV 10 Fixture.av) x.Fixtures)]
def Body.av (x : Body) : AV := .agg (Body.cells x)
def polygon_triangle.cells (x : polygon_triangle) : List AV := [(iAV x.e.X), (iAV x.e.Y), (iAV x.f.X), (iAV x.f.Y), (iAV x.cross)]
def polygon_triangle.av (x : polygon_triangle) : AV := .agg (polygon_triangle.cells x)
def MassData.cells (x : MassData) : List AV := [(iAV x.Mass), (iAV x.Center.X), (iAV x.Center.Y), (iAV x.Inertia)]
def MassData.av (x : MassData) : AV := .agg (MassData.cells x)
def Rot.cells (x : Rot) : List AV := [(iAV x.Cos), (iAV x.Sin)]
def Rot.av (x : Rot) : AV := .agg (Rot.cells x)
def SolverBody.cells (x : SolverBody) : List AV := [(iAV x.Velocity.X), (iAV x.Velocity.Y), (iAV x.AngularVelocity), (iAV x.InvMass), (iAV x.InvInertia)]
def SolverBody.av (x : SolverBody) : AV := .agg (SolverBody.cells x)
def AABB.cells (x : AABB) : List AV := [(iAV x.Min.X), (iAV x.Min.Y), (iAV x.Max.X), (iAV x.Max.Y)]
def AABB.av (x : AABB) : AV := .agg (AABB.cells x)
def segment_candidate.cells (x : segment_candidate) : List AV := [(iAV x.x.X), (iAV x.x.Y), (iAV x.y.X), (iAV x.y.Y)]
def segment_candidate.av (x : segment_candidate) : AV := .agg (segment_candidate.cells x)
theorem ts27 : tSz Try.prog 27 = some 1 := by kernel_rfl
theorem ag27 : tAg Try.prog 27 = some false := by kernel_rfl
theorem et27 : ElemT Try.prog 27 39 10 96 := ⟨by kernel_rfl, ⟨Try.t39, (.agg #[(.int .i64 0), (.int .i64 0), (.slice none 0 0), (.int .i64 0), (.int .i64 0), (.int .i64 0), (.bool false), (.int .i64 0), (.int .i64 0), (.int .i64 0)]), by kernel_rfl, by kernel_rfl, by kernel_rfl, by kernel_rfl, by kernel_rfl, by kernel_rfl⟩, by decide⟩
theorem ts37 : tSz Try.prog 37 = some 3 := by kernel_rfl
theorem ts35 : tSz Try.prog 35 = some 1 := by kernel_rfl
theorem ag35 : tAg Try.prog 35 = some false := by kernel_rfl
theorem ts3 : tSz Try.prog 3 = some 1 := by kernel_rfl
theorem ag3 : tAg Try.prog 3 = some false := by kernel_rfl
theorem ts24 : tSz Try.prog 24 = some 2 := by kernel_rfl
theorem ag24 : tAg Try.prog 24 = some true := by kernel_rfl
theorem ts26 : tSz Try.prog 26 = some 3 := by kernel_rfl
theorem ag26 : tAg Try.prog 26 = some true := by kernel_rfl
theorem ts34 : tSz Try.prog 34 = some 1 := by kernel_rfl
theorem ag34 : tAg Try.prog 34 = some false := by kernel_rfl
theorem et35 : ElemT Try.prog 35 24 2 16 := ⟨by kernel_rfl, ⟨Try.t24, (.agg #[(.int .i64 0), (.int .i64 0)]), by kernel_rfl, by kernel_rfl, by kernel_rfl, by kernel_rfl, by kernel_rfl, by kernel_rfl⟩, by decide⟩
theorem zt24 : ZeroT Try.prog 24 (Vec.cells Vec.zero) := ⟨[(.int .i64 0), (.int .i64 0)], by kernel_rfl, (.v (.v .nil)), by kernel_rfl⟩
theorem fd24 : ∃ fs, Try.prog.underlying 24 = some (.struct fs) ∧ fs.toList.all (fun f => (tSz Try.prog f.type).isSome) = true := ⟨_, Try.underlying24, by kernel_rfl⟩
theorem fd124 : ∃ fs, Try.prog.underlying 124 = some (.struct fs) ∧ fs.toList.all (fun f => (tSz Try.prog f.type).isSome) = true := ⟨_, Try.underlying124, by kernel_rfl⟩
theorem zt124 : ZeroT Try.prog 124 (polygon_triangle.cells polygon_triangle.zero) := ⟨[(.int .i64 0), (.int .i64 0), (.int .i64 0), (.int .i64 0), (.int .i64 0)], by kernel_rfl, (.v (.v (.v (.v (.v .nil))))), by kernel_rfl⟩
theorem et118 : ElemT Try.prog 118 124 5 40 := ⟨by kernel_rfl, ⟨Try.t124, (.agg #[(.int .i64 0), (.int .i64 0), (.int .i64 0), (.int .i64 0), (.int .i64 0)]), by kernel_rfl, by kernel_rfl, by kernel_rfl, by kernel_rfl, by kernel_rfl, by kernel_rfl⟩, by decide⟩
theorem ag37 : tAg Try.prog 37 = some true := by kernel_rfl
theorem eq24 : EqT Try.prog 24 Vec.av Vec.beq := by
  refine ⟨by kernel_rfl, fun x => [.int .i64 x.X, .int .i64 x.Y], fun x => rfl, fun w x y => ?_⟩
  rw [run_equalIn_struct w 9999 24 _ _ (by kernel_rfl) (by kernel_rfl)]
  simp [Program.fieldsOf, Op.eqFields, go_sem, if_ok, Vec.beq, Try.underlying3, Try.underlying24] <;> grind
theorem ts22 : tSz Try.prog 22 = some 1 := by kernel_rfl
theorem ag22 : tAg Try.prog 22 = some false := by kernel_rfl
theorem ag29 : tAg Try.prog 29 = some true := by kernel_rfl
theorem ts29 : tSz Try.prog 29 = some 20 := by kernel_rfl
theorem ts4 : tSz Try.prog 4 = some 1 := by kernel_rfl
theorem ag4 : tAg Try.prog 4 = some false := by kernel_rfl
theorem ag39 : tAg Try.prog 39 = some true := by kernel_rfl
theorem ts39 : tSz Try.prog 39 = some 10 := by kernel_rfl
theorem zt39 : ZeroT Try.prog 39 (Fixture.cells Fixture.zero) := ⟨[(.int .i64 0), (.int .i64 0), (.slice none 0 0), (.int .i64 0), (.int .i64 0), (.int .i64 0), (.bool false), (.int .i64 0), (.int .i64 0), (.int .i64 0)], by kernel_rfl, (.v (.v (.s (.v (.v (.v (.v (.v (.v (.v .nil)))))))))), by kernel_rfl⟩
theorem zt29 : ZeroT Try.prog 29 (Body.cells Body.zero) := ⟨[(.int .i64 0), (.int .i64 0), (.int .i64 0), (.int .i64 0), (.int .i64 0), (.int .i64 0), (.int .i64 0), (.int .i64 0), (.int .i64 0), (.int .i64 0), (.int .i64 0), (.int .i64 0), (.int .i64 0), (.int .i64 0), (.bool false), (.bool false), (.bool false), (.bool false), (.int .i64 0), (.slice none 0 0)], by kernel_rfl, (.v (.v (.v (.v (.v (.v (.v (.v (.v (.v (.v (.v (.v (.v (.v (.v (.v (.v (.v (.s .nil)))))))))))))))))))), by kernel_rfl⟩
theorem fd26 : ∃ fs, Try.prog.underlying 26 = some (.struct fs) ∧ fs.toList.all (fun f => (tSz Try.prog f.type).isSome) = true := ⟨_, Try.underlying26, by kernel_rfl⟩
theorem zt26 : ZeroT Try.prog 26 (Transform.cells Transform.zero) := ⟨[(.int .i64 0), (.int .i64 0), (.int .i64 0)], by kernel_rfl, (.v (.v (.v .nil))), by kernel_rfl⟩
theorem fd37 : ∃ fs, Try.prog.underlying 37 = some (.struct fs) ∧ fs.toList.all (fun f => (tSz Try.prog f.type).isSome) = true := ⟨_, Try.underlying37, by kernel_rfl⟩
theorem zt37 : ZeroT Try.prog 37 (Shape.cells Shape.zero) := ⟨[(.int .i64 0), (.int .i64 0), (.slice none 0 0)], by kernel_rfl, (.v (.v (.s .nil))), by kernel_rfl⟩
theorem fd39 : ∃ fs, Try.prog.underlying 39 = some (.struct fs) ∧ fs.toList.all (fun f => (tSz Try.prog f.type).isSome) = true := ⟨_, Try.underlying39, by kernel_rfl⟩
theorem fd29 : ∃ fs, Try.prog.underlying 29 = some (.struct fs) ∧ fs.toList.all (fun f => (tSz Try.prog f.type).isSome) = true := ⟨_, Try.underlying29, by kernel_rfl⟩
theorem zt78 : ZeroT Try.prog 78 (MassData.cells MassData.zero) := ⟨[(.int .i64 0), (.int .i64 0), (.int .i64 0), (.int .i64 0)], by kernel_rfl, (.v (.v (.v (.v .nil)))), by kernel_rfl⟩
theorem fd78 : ∃ fs, Try.prog.underlying 78 = some (.struct fs) ∧ fs.toList.all (fun f => (tSz Try.prog f.type).isSome) = true := ⟨_, Try.underlying78, by kernel_rfl⟩
theorem ts78 : tSz Try.prog 78 = some 4 := by kernel_rfl
theorem ag78 : tAg Try.prog 78 = some true := by kernel_rfl
theorem ag124 : tAg Try.prog 124 = some true := by kernel_rfl
theorem ts124 : tSz Try.prog 124 = some 5 := by kernel_rfl
theorem et114 : ElemT Try.prog 114 78 4 32 := ⟨by kernel_rfl, ⟨Try.t78, (.agg #[(.int .i64 0), (.int .i64 0), (.int .i64 0), (.int .i64 0)]), by kernel_rfl, by kernel_rfl, by kernel_rfl, by kernel_rfl, by kernel_rfl, by kernel_rfl⟩, by decide⟩
theorem zt96 : ZeroT Try.prog 96 (Rot.cells Rot.zero) := ⟨[(.int .i64 0), (.int .i64 0)], by kernel_rfl, (.v (.v .nil)), by kernel_rfl⟩
theorem fd96 : ∃ fs, Try.prog.underlying 96 = some (.struct fs) ∧ fs.toList.all (fun f => (tSz Try.prog f.type).isSome) = true := ⟨_, Try.underlying96, by kernel_rfl⟩
theorem ts96 : tSz Try.prog 96 = some 2 := by kernel_rfl
theorem ag96 : tAg Try.prog 96 = some true := by kernel_rfl
theorem zt60 : ZeroT Try.prog 60 (SolverBody.cells SolverBody.zero) := ⟨[(.int .i64 0), (.int .i64 0), (.int .i64 0), (.int .i64 0), (.int .i64 0)], by kernel_rfl, (.v (.v (.v (.v (.v .nil))))), by kernel_rfl⟩
theorem fd60 : ∃ fs, Try.prog.underlying 60 = some (.struct fs) ∧ fs.toList.all (fun f => (tSz Try.prog f.type).isSome) = true := ⟨_, Try.underlying60, by kernel_rfl⟩
theorem ts60 : tSz Try.prog 60 = some 5 := by kernel_rfl
theorem ag60 : tAg Try.prog 60 = some true := by kernel_rfl
theorem zt48 : ZeroT Try.prog 48 (AABB.cells AABB.zero) := ⟨[(.int .i64 0), (.int .i64 0), (.int .i64 0), (.int .i64 0)], by kernel_rfl, (.v (.v (.v (.v .nil)))), by kernel_rfl⟩
theorem fd48 : ∃ fs, Try.prog.underlying 48 = some (.struct fs) ∧ fs.toList.all (fun f => (tSz Try.prog f.type).isSome) = true := ⟨_, Try.underlying48, by kernel_rfl⟩
theorem ts48 : tSz Try.prog 48 = some 4 := by kernel_rfl
theorem ag48 : tAg Try.prog 48 = some true := by kernel_rfl
theorem fd112 : ∃ fs, Try.prog.underlying 112 = some (.struct fs) ∧ fs.toList.all (fun f => (tSz Try.prog f.type).isSome) = true := ⟨_, Try.underlying112, by kernel_rfl⟩
theorem zt112 : ZeroT Try.prog 112 (segment_candidate.cells segment_candidate.zero) := ⟨[(.int .i64 0), (.int .i64 0), (.int .i64 0), (.int .i64 0)], by kernel_rfl, (.v (.v (.v (.v .nil)))), by kernel_rfl⟩
theorem ts112 : tSz Try.prog 112 = some 4 := by kernel_rfl
theorem et113 : ElemT Try.prog 113 112 4 32 := ⟨by kernel_rfl, ⟨Try.t112, (.agg #[(.int .i64 0), (.int .i64 0), (.int .i64 0), (.int .i64 0)]), by kernel_rfl, by kernel_rfl, by kernel_rfl, by kernel_rfl, by kernel_rfl, by kernel_rfl⟩, by decide⟩
theorem ag112 : tAg Try.prog 112 = some true := by kernel_rfl
theorem sh24 : Try.prog.stoodInHeld 24 = false := by kernel_rfl
theorem uf24 : Try.prog.underlying 24 = some (.struct (Try.prog.fieldsOf 24)) := by kernel_rfl
theorem eq26 : EqT Try.prog 26 Transform.av Transform.beq := by
  refine ⟨by kernel_rfl, fun x => [.int .i64 x.Position.X, .int .i64 x.Position.Y, .int .i64 x.Angle], fun x => rfl, fun w x y => ?_⟩
  rw [run_equalIn_struct w 9999 26 _ _ (by kernel_rfl) (by kernel_rfl)]
  have q0 := fun (d : Nat) (w : World) (xs ys : Array Value) => run_equalIn_struct w d 24 xs ys uf24 sh24
  simp [Program.fieldsOf, Op.eqFields, go_sem, if_ok, Transform.beq, Vec.beq, Try.underlying3, Try.underlying23, Try.underlying24, Try.underlying26, q0] <;> grind
theorem eq48 : EqT Try.prog 48 AABB.av AABB.beq := by
  refine ⟨by kernel_rfl, fun x => [.int .i64 x.Min.X, .int .i64 x.Min.Y, .int .i64 x.Max.X, .int .i64 x.Max.Y], fun x => rfl, fun w x y => ?_⟩
  rw [run_equalIn_struct w 9999 48 _ _ (by kernel_rfl) (by kernel_rfl)]
  have q0 := fun (d : Nat) (w : World) (xs ys : Array Value) => run_equalIn_struct w d 24 xs ys uf24 sh24
  simp [Program.fieldsOf, Op.eqFields, go_sem, if_ok, AABB.beq, Vec.beq, Try.underlying3, Try.underlying23, Try.underlying24, Try.underlying48, q0] <;> grind
theorem ref23_Small_ok {b : Body} {r : Bool} (h : ref23_Small b = some r) : FnR Try.prog 7 [(Body.av b)] (boolAV r) := by
  refine FnR.intro' (fn := Try.f7) (N := 28) Try.func7 rfl rfl (Nat.le_of_ble_eq_true rfl) [1] ?_
  refine Wp.seq ?_
  refine Wp.region ?_
  refine GoT.a rfl (AEx.bx (Z := (Body.cells b)) rfl (.tmp rfl) rfl rfl rfl rfl) rfl (lt_b rfl) ?_
  refine GoT.q rfl (QEx.as (boolAV false) (QEx.assign rfl .con)) rfl (lt_b rfl) ?_
  refine GoT.nil ?_
  refine Wp.join0 (⟨[(1, (.ptr 1 0))], [(1, .cells (Body.cells b))], []⟩) ((ref23_Small_j2 b) = some r) ?_ ?_
  · intro h
    refine let_e h fun x5 hx5 h => ?_
    refine Wp.seq ?_
    refine Wp.region ?_
    refine GoT.q rfl (QEx.fldP 19 rfl Try.underlying29 rfl ts27 rfl (.tmp rfl) rfl) rfl (lt_b rfl) ?_
    refine GoT.qr rfl rfl (QEx.ldP1 (Body.cells b) ((slAV 10 Fixture.av) b.Fixtures) rfl ag27 (.tmp rfl) rfl) rfl (lt_b rfl) ?_
    refine GoT.q rfl (QEx.lenL rfl ⟨_, Try.underlying27⟩ (.tmp rfl)) rfl (lt_b rfl) ?_
    refine GoT.q rfl (QEx.leqK rfl (.tmp rfl) .con) rfl (lt_b rfl) ?_
    refine GoT.q rfl (QEx.eq (QEx.assign rfl (.tmp rfl)) (congrArg boolAV hx5)) rfl (lt_b rfl) ?_
    refine GoT.nil ?_
    refine Wp.ret ?_
    cases h
    exact LeafQ.ret [] (by decide) (.cons (.tmp rfl) .nil) rfl
  · refine Wp.seq ?_
    refine Wp.region ?_
    refine GoT.q rfl (QEx.as (iAV 0) (QEx.assign rfl .con)) rfl (lt_b rfl) ?_
    refine GoT.nil ?_
    refine Wp.block ?_
    refine Wp.loop1 (fun v1 => ⟨[(1, (.ptr 1 0)), (3, (iAV v1))], [(1, .cells (Body.cells b))], []⟩) (fun n v1 => ref23_Small_l1 b (ref23_Small_j2 b) n v1 = some r) fuel 0 [] [] h (LS.to.mk (.r rfl rfl (.b rfl rfl .n)) (.b rfl rfl rfl .n) rfl) ?_
    rintro (_ | n2) v1 h
    · exact none_e h
    rw [ref23_Small_l1] at h
    refine Wp.seq ?_
    refine Wp.seq ?_
    refine Wp.region ?_
    refine GoT.q rfl (QEx.move rfl (.tmp rfl)) rfl (lt_b rfl) ?_
    refine GoT.q rfl (QEx.fldP 19 rfl Try.underlying29 rfl ts27 rfl (.tmp rfl) rfl) rfl (lt_b rfl) ?_
    refine GoT.qr rfl rfl (QEx.ldP1 (Body.cells b) ((slAV 10 Fixture.av) b.Fixtures) rfl ag27 (.tmp rfl) rfl) rfl (lt_b rfl) ?_
    refine GoT.q rfl (QEx.lenL rfl ⟨_, Try.underlying27⟩ (.tmp rfl)) rfl (lt_b rfl) ?_
    refine GoT.q rfl (QEx.lssK rfl (.tmp rfl) (.tmp rfl)) rfl (lt_b rfl) ?_
    refine GoT.q rfl (QEx.move rfl (.tmp rfl)) rfl (lt_b rfl) ?_
    refine GoT.g rfl rfl rfl (fun hg => QEx.move rfl (.tmp rfl)) rfl (lt_b rfl) ?_
    refine GoT.g rfl rfl rfl (fun hg => QEx.lssK rfl (.opt (.tmp rfl) hg) .con) rfl (lt_b rfl) ?_
    refine GoT.q rfl (QEx.pickK rfl (.tmp rfl) (fun hp => (.opt (.tmp rfl) (beq_t hp))) (fun hp => .con)) rfl (lt_b rfl) ?_
    refine GoT.nil ?_
    refine Wp.condS h rfl (fun h => ?_) (fun h => ?_)
    · refine Wp.skip ?_
      refine Wp.seq ?_
      refine Wp.block ?_
      refine chk_e h fun c2 h => ?_
      refine let_e h fun x3 hx3 h => ?_
      refine Wp.seq ?_
      refine Wp.region ?_
      refine GoT.q rfl (QEx.fldP 19 rfl Try.underlying29 rfl ts27 rfl (.tmp rfl) rfl) rfl (lt_b rfl) ?_
      refine GoT.qr rfl rfl (QEx.ldP1 (Body.cells b) ((slAV 10 Fixture.av) b.Fixtures) rfl ag27 (.tmp rfl) rfl) rfl (lt_b rfl) ?_
      refine GoT.q rfl (QEx.move rfl (.tmp rfl)) rfl (lt_b rfl) ?_
      refine GoT.q rfl (QEx.as (.cptr (Fixture.cells (ix b.Fixtures v1))) (QEx.idxL (E := Fixture.av) rfl et27 (.tmp rfl) (.tmp rfl) c2)) rfl (lt_b rfl) ?_
      refine GoT.q rfl (QEx.fldC (Shape.cells ((ix b.Fixtures v1).Shape)) rfl Try.underlying39 rfl ts37 rfl (.tmp rfl) rfl) rfl (lt_b rfl) ?_
      refine GoT.q rfl (QEx.fldC [((slAV 2 Vec.av) (((ix b.Fixtures v1).Shape).Vertices))] rfl Try.underlying37 rfl ts35 rfl (.tmp rfl) rfl) rfl (lt_b rfl) ?_
      refine GoT.q rfl (QEx.ldC (x := ((slAV 2 Vec.av) (((ix b.Fixtures v1).Shape).Vertices))) rfl ag35 ts35 (.tmp rfl) (.inr ⟨rfl, rfl⟩)) rfl (lt_b rfl) ?_
      refine GoT.q rfl (QEx.lenL rfl ⟨_, Try.underlying35⟩ (.tmp rfl)) rfl (lt_b rfl) ?_
      refine GoT.q rfl (QEx.eq (QEx.gtrK rfl (.tmp rfl) .con) (congrArg boolAV hx3)) rfl (lt_b rfl) ?_
      refine GoT.nil ?_
      refine Wp.condS h rfl (fun h => ?_) (fun h => ?_)
      · refine Wp.seq ?_
        refine Wp.region ?_
        refine GoT.q rfl (QEx.as (boolAV false) (QEx.assign rfl .con)) rfl (lt_b rfl) ?_
        refine GoT.nil ?_
        refine Wp.ret ?_
        cases h
        exact LeafQ.ret [] (by decide) (.cons (.tmp rfl) .nil) rfl
      · refine Wp.skip ?_
        refine let_e h fun x4 hx4 h => ?_
        refine Wp.region ?_
        refine GoT.q rfl (QEx.move rfl (.tmp rfl)) rfl (lt_b rfl) ?_
        refine GoT.q rfl (QEx.addK rfl (.tmp rfl) .con) rfl (lt_b rfl) ?_
        refine GoT.q rfl (QEx.eq (QEx.assign rfl (.tmp rfl)) (congrArg iAV hx4)) rfl (lt_b rfl) ?_
        refine GoT.nil ?_
        exact Round1.mk x4 [] [] h (LS.to.mk (.r rfl rfl (.b rfl rfl .n)) (.b rfl rfl rfl .n) rfl)
    · refine Wp.exit ?_
      exact Joined0.mk [] [] h (LS.to.mk (.r rfl rfl .n) (.b rfl rfl rfl .n) rfl)
theorem body_within_ok {x_0 : Int} {low : Int} {high : Int} {r : Bool} (h : body_within x_0 low high = r) : FnR Try.prog 59 [(iAV x_0), (iAV low), (iAV high)] (boolAV r) := by
  refine FnR.intro' (fn := Try.f59) (N := 15) Try.func59 rfl rfl (Nat.le_of_ble_eq_true rfl) [] ?_
  refine Wp.seq ?_
  refine Wp.region ?_
  refine GoT.q rfl (QEx.as (boolAV false) (QEx.assign rfl .con)) rfl (lt_b rfl) ?_
  refine GoT.nil ?_
  refine let_e h fun x1 hx1 h => ?_
  refine Wp.seq ?_
  refine Wp.region ?_
  refine GoT.q rfl (QEx.move rfl (.tmp rfl)) rfl (lt_b rfl) ?_
  refine GoT.q rfl (QEx.move rfl (.tmp rfl)) rfl (lt_b rfl) ?_
  refine GoT.q rfl (QEx.leqK rfl (.tmp rfl) (.tmp rfl)) rfl (lt_b rfl) ?_
  refine GoT.q rfl (QEx.move rfl (.tmp rfl)) rfl (lt_b rfl) ?_
  refine GoT.g rfl rfl rfl (fun hg => QEx.move rfl (.tmp rfl)) rfl (lt_b rfl) ?_
  refine GoT.g rfl rfl rfl (fun hg => QEx.move rfl (.tmp rfl)) rfl (lt_b rfl) ?_
  refine GoT.g rfl rfl rfl (fun hg => QEx.leqK rfl (.opt (.tmp rfl) hg) (.opt (.tmp rfl) hg)) rfl (lt_b rfl) ?_
  refine GoT.q rfl (QEx.pickK rfl (.tmp rfl) (fun hp => (.opt (.tmp rfl) (beq_t hp))) (fun hp => .con)) rfl (lt_b rfl) ?_
  refine GoT.q rfl (QEx.eq (QEx.assign rfl (.tmp rfl)) (congrArg boolAV hx1)) rfl (lt_b rfl) ?_
  refine GoT.nil ?_
  refine Wp.ret ?_
  cases h
  exact LeafQ.ret [] (by decide) (.cons (.tmp rfl) .nil) rfl
theorem body_bounded_ok {v_0 : Vec} {limit : Int} {r : Bool} (h : body_bounded v_0 limit = r) : FnR Try.prog 58 [(Vec.av v_0), (iAV limit)] (boolAV r) := by
  refine FnR.intro' (fn := Try.f58) (N := 19) Try.func58 rfl rfl (Nat.le_of_ble_eq_true rfl) [2] ?_
  refine Wp.seq ?_
  refine Wp.region ?_
  refine GoT.a rfl (AEx.bx (Z := (Vec.cells v_0)) rfl (.tmp rfl) rfl rfl rfl rfl) rfl (lt_b rfl) ?_
  refine GoT.q rfl (QEx.as (boolAV false) (QEx.assign rfl .con)) rfl (lt_b rfl) ?_
  refine GoT.nil ?_
  refine let_e h fun r1 hr1 h => ?_
  refine let_e h fun r2 hr2 h => ?_
  refine let_e h fun x3 hx3 h => ?_
  refine Wp.seq ?_
  refine Wp.region ?_
  refine GoT.q rfl (QEx.fldP 0 rfl Try.underlying24 rfl ts3 rfl (.tmp rfl) rfl) rfl (lt_b rfl) ?_
  refine GoT.qr rfl rfl (QEx.ldP1 (Vec.cells v_0) (iAV v_0.X) rfl ag3 (.tmp rfl) rfl) rfl (lt_b rfl) ?_
  refine GoT.q rfl (QEx.move rfl (.tmp rfl)) rfl (lt_b rfl) ?_
  refine GoT.q rfl (QEx.negK rfl (.tmp rfl)) rfl (lt_b rfl) ?_
  refine GoT.q rfl (QEx.move rfl (.tmp rfl)) rfl (lt_b rfl) ?_
  refine GoT.q rfl (QEx.cal0 (r := (boolAV r1)) [(iAV v_0.X), (iAV (w64 (0 - limit))), (iAV limit)] rfl Try.call59 (.cons (.tmp rfl) (.cons (.tmp rfl) (.cons (.tmp rfl) .nil))) (body_within_ok hr1) rfl rfl) rfl (lt_b rfl) ?_
  refine GoT.q rfl (QEx.move rfl (.tmp rfl)) rfl (lt_b rfl) ?_
  refine GoT.g rfl rfl rfl (fun hg => QEx.fldP 1 rfl Try.underlying24 rfl ts3 rfl (.tmp rfl) rfl) rfl (lt_b rfl) ?_
  refine GoT.gr rfl rfl rfl rfl (fun hg => QEx.ldP1 (Vec.cells v_0) (iAV v_0.Y) rfl ag3 (.opt (.tmp rfl) hg) rfl) rfl (lt_b rfl) ?_
  refine GoT.g rfl rfl rfl (fun hg => QEx.move rfl (.tmp rfl)) rfl (lt_b rfl) ?_
  refine GoT.g rfl rfl rfl (fun hg => QEx.negK rfl (.opt (.tmp rfl) hg)) rfl (lt_b rfl) ?_
  refine GoT.g rfl rfl rfl (fun hg => QEx.move rfl (.tmp rfl)) rfl (lt_b rfl) ?_
  refine GoT.g rfl rfl rfl (fun hg => QEx.cal0 (r := (boolAV r2)) [(iAV v_0.Y), (iAV (w64 (0 - limit))), (iAV limit)] rfl Try.call59 (.cons (.opt (.tmp rfl) hg) (.cons (.opt (.tmp rfl) hg) (.cons (.opt (.tmp rfl) hg) .nil))) (body_within_ok hr2) rfl rfl) rfl (lt_b rfl) ?_
  refine GoT.q rfl (QEx.pickK rfl (.tmp rfl) (fun hp => (.opt (.tmp rfl) (beq_t hp))) (fun hp => .con)) rfl (lt_b rfl) ?_
  refine GoT.q rfl (QEx.eq (QEx.assign rfl (.tmp rfl)) (congrArg boolAV hx3)) rfl (lt_b rfl) ?_
  refine GoT.nil ?_
  refine Wp.ret ?_
  cases h
  exact LeafQ.ret [] (by decide) (.cons (.tmp rfl) .nil) rfl
theorem transform_inWorld_ok {x_0 : Int} {r : Bool} (h : transform_inWorld x_0 = r) : FnR Try.prog 77 [(iAV x_0)] (boolAV r) := by
  refine FnR.intro' (fn := Try.f77) (N := 9) Try.func77 rfl rfl (Nat.le_of_ble_eq_true rfl) [] ?_
  refine Wp.seq ?_
  refine Wp.region ?_
  refine GoT.q rfl (QEx.as (boolAV false) (QEx.assign rfl .con)) rfl (lt_b rfl) ?_
  refine GoT.nil ?_
  refine let_e h fun x1 hx1 h => ?_
  refine Wp.seq ?_
  refine Wp.region ?_
  refine GoT.q rfl (QEx.move rfl (.tmp rfl)) rfl (lt_b rfl) ?_
  refine GoT.q rfl (QEx.geqK rfl (.tmp rfl) .con) rfl (lt_b rfl) ?_
  refine GoT.q rfl (QEx.move rfl (.tmp rfl)) rfl (lt_b rfl) ?_
  refine GoT.g rfl rfl rfl (fun hg => QEx.move rfl (.tmp rfl)) rfl (lt_b rfl) ?_
  refine GoT.g rfl rfl rfl (fun hg => QEx.leqK rfl (.opt (.tmp rfl) hg) .con) rfl (lt_b rfl) ?_
  refine GoT.q rfl (QEx.pickK rfl (.tmp rfl) (fun hp => (.opt (.tmp rfl) (beq_t hp))) (fun hp => .con)) rfl (lt_b rfl) ?_
  refine GoT.q rfl (QEx.eq (QEx.assign rfl (.tmp rfl)) (congrArg boolAV hx1)) rfl (lt_b rfl) ?_
  refine GoT.nil ?_
  refine Wp.ret ?_
  cases h
  exact LeafQ.ret [] (by decide) (.cons (.tmp rfl) .nil) rfl
theorem transform_Valid_ok {t : Transform} {r : Bool} (h : transform_Valid t = r) : FnR Try.prog 60 [(Transform.av t)] (boolAV r) := by
  refine FnR.intro' (fn := Try.f60) (N := 23) Try.func60 rfl rfl (Nat.le_of_ble_eq_true rfl) [1] ?_
  refine Wp.seq ?_
  refine Wp.region ?_
  refine GoT.a rfl (AEx.bx (Z := (Transform.cells t)) rfl (.tmp rfl) rfl rfl rfl rfl) rfl (lt_b rfl) ?_
  refine GoT.q rfl (QEx.as (boolAV false) (QEx.assign rfl .con)) rfl (lt_b rfl) ?_
  refine GoT.nil ?_
  refine let_e h fun r1 hr1 h => ?_
  refine let_e h fun r2 hr2 h => ?_
  refine let_e h fun x3 hx3 h => ?_
  refine Wp.seq ?_
  refine Wp.region ?_
  refine GoT.q rfl (QEx.fldP 0 rfl Try.underlying26 rfl ts24 rfl (.tmp rfl) rfl) rfl (lt_b rfl) ?_
  refine GoT.q rfl (QEx.fldP 0 rfl Try.underlying24 rfl ts3 rfl (.tmp rfl) rfl) rfl (lt_b rfl) ?_
  refine GoT.qr rfl rfl (QEx.ldP1 (Transform.cells t) (iAV t.Position.X) rfl ag3 (.tmp rfl) rfl) rfl (lt_b rfl) ?_
  refine GoT.q rfl (QEx.cal0 (r := (boolAV r1)) [(iAV t.Position.X)] rfl Try.call77 (.cons (.tmp rfl) .nil) (transform_inWorld_ok hr1) rfl rfl) rfl (lt_b rfl) ?_
  refine GoT.q rfl (QEx.move rfl (.tmp rfl)) rfl (lt_b rfl) ?_
  refine GoT.g rfl rfl rfl (fun hg => QEx.fldP 0 rfl Try.underlying26 rfl ts24 rfl (.tmp rfl) rfl) rfl (lt_b rfl) ?_
  refine GoT.g rfl rfl rfl (fun hg => QEx.fldP 1 rfl Try.underlying24 rfl ts3 rfl (.opt (.tmp rfl) hg) rfl) rfl (lt_b rfl) ?_
  refine GoT.gr rfl rfl rfl rfl (fun hg => QEx.ldP1 (Transform.cells t) (iAV t.Position.Y) rfl ag3 (.opt (.tmp rfl) hg) rfl) rfl (lt_b rfl) ?_
  refine GoT.g rfl rfl rfl (fun hg => QEx.cal0 (r := (boolAV r2)) [(iAV t.Position.Y)] rfl Try.call77 (.cons (.opt (.tmp rfl) hg) .nil) (transform_inWorld_ok hr2) rfl rfl) rfl (lt_b rfl) ?_
  refine GoT.q rfl (QEx.pickK rfl (.tmp rfl) (fun hp => (.opt (.tmp rfl) (beq_t hp))) (fun hp => .con)) rfl (lt_b rfl) ?_
  refine GoT.q rfl (QEx.move rfl (.tmp rfl)) rfl (lt_b rfl) ?_
  refine GoT.g rfl rfl rfl (fun hg => QEx.fldP 2 rfl Try.underlying26 rfl ts3 rfl (.tmp rfl) rfl) rfl (lt_b rfl) ?_
  refine GoT.gr rfl rfl rfl rfl (fun hg => QEx.ldP1 (Transform.cells t) (iAV t.Angle) rfl ag3 (.opt (.tmp rfl) hg) rfl) rfl (lt_b rfl) ?_
  refine GoT.g rfl rfl rfl (fun hg => QEx.geqK rfl (.opt (.tmp rfl) hg) .con) rfl (lt_b rfl) ?_
  refine GoT.q rfl (QEx.pickK rfl (.tmp rfl) (fun hp => (.opt (.tmp rfl) (beq_t hp))) (fun hp => .con)) rfl (lt_b rfl) ?_
  refine GoT.q rfl (QEx.move rfl (.tmp rfl)) rfl (lt_b rfl) ?_
  refine GoT.g rfl rfl rfl (fun hg => QEx.fldP 2 rfl Try.underlying26 rfl ts3 rfl (.tmp rfl) rfl) rfl (lt_b rfl) ?_
  refine GoT.gr rfl rfl rfl rfl (fun hg => QEx.ldP1 (Transform.cells t) (iAV t.Angle) rfl ag3 (.opt (.tmp rfl) hg) rfl) rfl (lt_b rfl) ?_
  refine GoT.g rfl rfl rfl (fun hg => QEx.lssK rfl (.opt (.tmp rfl) hg) .con) rfl (lt_b rfl) ?_
  refine GoT.q rfl (QEx.pickK rfl (.tmp rfl) (fun hp => (.opt (.tmp rfl) (beq_t hp))) (fun hp => .con)) rfl (lt_b rfl) ?_
  refine GoT.q rfl (QEx.eq (QEx.assign rfl (.tmp rfl)) (congrArg boolAV hx3)) rfl (lt_b rfl) ?_
  refine GoT.nil ?_
  refine Wp.ret ?_
  cases h
  exact LeafQ.ret [] (by decide) (.cons (.tmp rfl) .nil) rfl
theorem body_inRange_ok {b : Body} {r : Bool} (h : body_inRange b = r) : FnR Try.prog 35 [(Body.av b)] (boolAV r) := by
  refine FnR.intro' (fn := Try.f35) (N := 59) Try.func35 rfl rfl (Nat.le_of_ble_eq_true rfl) [1] ?_
  refine Wp.seq ?_
  refine Wp.region ?_
  refine GoT.a rfl (AEx.bx (Z := (Body.cells b)) rfl (.tmp rfl) rfl rfl rfl rfl) rfl (lt_b rfl) ?_
  refine GoT.q rfl (QEx.as (boolAV false) (QEx.assign rfl .con)) rfl (lt_b rfl) ?_
  refine GoT.nil ?_
  refine let_e h fun r1 hr1 h => ?_
  refine let_e h fun r2 hr2 h => ?_
  refine let_e h fun x3 hx3 h => ?_
  refine Wp.seq ?_
  refine Wp.region ?_
  refine GoT.q rfl (QEx.fldP 5 rfl Try.underlying29 rfl ts24 rfl (.tmp rfl) rfl) rfl (lt_b rfl) ?_
  refine GoT.qr rfl rfl (QEx.ldP (Body.cells b) (Vec.av b.Velocity) rfl ag24 ts24 (.tmp rfl) (le_b rfl) rfl) rfl (lt_b rfl) ?_
  refine GoT.q rfl (QEx.cal0 (r := (boolAV r1)) [(Vec.av b.Velocity), (iAV 16777216)] rfl Try.call58 (.cons (.tmp rfl) (.cons .con .nil)) (body_bounded_ok hr1) rfl rfl) rfl (lt_b rfl) ?_
  refine GoT.q rfl (QEx.move rfl (.tmp rfl)) rfl (lt_b rfl) ?_
  refine GoT.g rfl rfl rfl (fun hg => QEx.fldP 7 rfl Try.underlying29 rfl ts3 rfl (.tmp rfl) rfl) rfl (lt_b rfl) ?_
  refine GoT.gr rfl rfl rfl rfl (fun hg => QEx.ldP1 (Body.cells b) (iAV b.AngularVelocity) rfl ag3 (.opt (.tmp rfl) hg) rfl) rfl (lt_b rfl) ?_
  refine GoT.g rfl rfl rfl (fun hg => QEx.cal0 (r := (boolAV r2)) [(iAV b.AngularVelocity), (iAV (-4194304)), (iAV 4194304)] rfl Try.call59 (.cons (.opt (.tmp rfl) hg) (.cons .con (.cons .con .nil))) (body_within_ok hr2) rfl rfl) rfl (lt_b rfl) ?_
  refine GoT.q rfl (QEx.pickK rfl (.tmp rfl) (fun hp => (.opt (.tmp rfl) (beq_t hp))) (fun hp => .con)) rfl (lt_b rfl) ?_
  refine GoT.q rfl (QEx.eq (QEx.assign rfl (.tmp rfl)) (congrArg boolAV hx3)) rfl (lt_b rfl) ?_
  refine GoT.nil ?_
  refine let_e h fun r4 hr4 h => ?_
  refine let_e h fun r5 hr5 h => ?_
  refine let_e h fun x6 hx6 h => ?_
  refine Wp.seq ?_
  refine Wp.region ?_
  refine GoT.q rfl (QEx.fldP 8 rfl Try.underlying29 rfl ts24 rfl (.tmp rfl) rfl) rfl (lt_b rfl) ?_
  refine GoT.qr rfl rfl (QEx.ldP (Body.cells b) (Vec.av b.Force) rfl ag24 ts24 (.tmp rfl) (le_b rfl) rfl) rfl (lt_b rfl) ?_
  refine GoT.q rfl (QEx.cal0 (r := (boolAV r4)) [(Vec.av b.Force), (iAV 536870911)] rfl Try.call58 (.cons (.tmp rfl) (.cons .con .nil)) (body_bounded_ok hr4) rfl rfl) rfl (lt_b rfl) ?_
  refine GoT.q rfl (QEx.move rfl (.tmp rfl)) rfl (lt_b rfl) ?_
  refine GoT.g rfl rfl rfl (fun hg => QEx.fldP 10 rfl Try.underlying29 rfl ts3 rfl (.tmp rfl) rfl) rfl (lt_b rfl) ?_
  refine GoT.gr rfl rfl rfl rfl (fun hg => QEx.ldP1 (Body.cells b) (iAV b.Torque) rfl ag3 (.opt (.tmp rfl) hg) rfl) rfl (lt_b rfl) ?_
  refine GoT.g rfl rfl rfl (fun hg => QEx.cal0 (r := (boolAV r5)) [(iAV b.Torque), (iAV (-536870911)), (iAV 536870911)] rfl Try.call59 (.cons (.opt (.tmp rfl) hg) (.cons .con (.cons .con .nil))) (body_within_ok hr5) rfl rfl) rfl (lt_b rfl) ?_
  refine GoT.q rfl (QEx.pickK rfl (.tmp rfl) (fun hp => (.opt (.tmp rfl) (beq_t hp))) (fun hp => .con)) rfl (lt_b rfl) ?_
  refine GoT.q rfl (QEx.eq (QEx.assign rfl (.tmp rfl)) (congrArg boolAV hx6)) rfl (lt_b rfl) ?_
  refine GoT.nil ?_
  refine let_e h fun r7 hr7 h => ?_
  refine let_e h fun r8 hr8 h => ?_
  refine let_e h fun x9 hx9 h => ?_
  refine Wp.seq ?_
  refine Wp.region ?_
  refine GoT.q rfl (QEx.fldP 11 rfl Try.underlying29 rfl ts3 rfl (.tmp rfl) rfl) rfl (lt_b rfl) ?_
  refine GoT.qr rfl rfl (QEx.ldP1 (Body.cells b) (iAV b.LinearDamping) rfl ag3 (.tmp rfl) rfl) rfl (lt_b rfl) ?_
  refine GoT.q rfl (QEx.cal0 (r := (boolAV r7)) [(iAV b.LinearDamping), (iAV 0), (iAV 65536)] rfl Try.call59 (.cons (.tmp rfl) (.cons .con (.cons .con .nil))) (body_within_ok hr7) rfl rfl) rfl (lt_b rfl) ?_
  refine GoT.q rfl (QEx.move rfl (.tmp rfl)) rfl (lt_b rfl) ?_
  refine GoT.g rfl rfl rfl (fun hg => QEx.fldP 12 rfl Try.underlying29 rfl ts3 rfl (.tmp rfl) rfl) rfl (lt_b rfl) ?_
  refine GoT.gr rfl rfl rfl rfl (fun hg => QEx.ldP1 (Body.cells b) (iAV b.AngularDamping) rfl ag3 (.opt (.tmp rfl) hg) rfl) rfl (lt_b rfl) ?_
  refine GoT.g rfl rfl rfl (fun hg => QEx.cal0 (r := (boolAV r8)) [(iAV b.AngularDamping), (iAV 0), (iAV 65536)] rfl Try.call59 (.cons (.opt (.tmp rfl) hg) (.cons .con (.cons .con .nil))) (body_within_ok hr8) rfl rfl) rfl (lt_b rfl) ?_
  refine GoT.q rfl (QEx.pickK rfl (.tmp rfl) (fun hp => (.opt (.tmp rfl) (beq_t hp))) (fun hp => .con)) rfl (lt_b rfl) ?_
  refine GoT.q rfl (QEx.eq (QEx.assign rfl (.tmp rfl)) (congrArg boolAV hx9)) rfl (lt_b rfl) ?_
  refine GoT.nil ?_
  refine let_e h fun r10 hr10 h => ?_
  refine Wp.seq ?_
  refine Wp.region ?_
  refine GoT.q rfl (QEx.fldP 13 rfl Try.underlying29 rfl ts3 rfl (.tmp rfl) rfl) rfl (lt_b rfl) ?_
  refine GoT.qr rfl rfl (QEx.ldP1 (Body.cells b) (iAV b.GravityScale) rfl ag3 (.tmp rfl) rfl) rfl (lt_b rfl) ?_
  refine GoT.q rfl (QEx.cal0 (r := (boolAV r10)) [(iAV b.GravityScale), (iAV (-262144)), (iAV 262144)] rfl Try.call59 (.cons (.tmp rfl) (.cons .con (.cons .con .nil))) (body_within_ok hr10) rfl rfl) rfl (lt_b rfl) ?_
  refine GoT.q rfl (QEx.assign rfl (.tmp rfl)) rfl (lt_b rfl) ?_
  refine GoT.nil ?_
  refine let_e h fun r11 hr11 h => ?_
  refine let_e h fun r12 hr12 h => ?_
  refine let_e h fun r13 hr13 h => ?_
  refine let_e h fun x14 hx14 h => ?_
  refine Wp.seq ?_
  refine Wp.region ?_
  refine GoT.q rfl (QEx.fldP 0 rfl Try.underlying29 rfl ts3 rfl (.tmp rfl) rfl) rfl (lt_b rfl) ?_
  refine GoT.qr rfl rfl (QEx.ldP1 (Body.cells b) (iAV b.ID) rfl ag3 (.tmp rfl) rfl) rfl (lt_b rfl) ?_
  refine GoT.q rfl (QEx.cal0 (r := (boolAV r11)) [(iAV b.ID), (iAV 1), (iAV 1099511627776)] rfl Try.call59 (.cons (.tmp rfl) (.cons .con (.cons .con .nil))) (body_within_ok hr11) rfl rfl) rfl (lt_b rfl) ?_
  refine GoT.q rfl (QEx.move rfl (.tmp rfl)) rfl (lt_b rfl) ?_
  refine GoT.g rfl rfl rfl (fun hg => QEx.fldP 2 rfl Try.underlying29 rfl ts26 rfl (.tmp rfl) rfl) rfl (lt_b rfl) ?_
  refine GoT.gr rfl rfl rfl rfl (fun hg => QEx.ldP (Body.cells b) (Transform.av b.Transform) rfl ag26 ts26 (.opt (.tmp rfl) hg) (le_b rfl) rfl) rfl (lt_b rfl) ?_
  refine GoT.g rfl rfl rfl (fun hg => QEx.cal0 (r := (boolAV r12)) [(Transform.av b.Transform)] rfl Try.call60 (.cons (.opt (.tmp rfl) hg) .nil) (transform_Valid_ok hr12) rfl rfl) rfl (lt_b rfl) ?_
  refine GoT.q rfl (QEx.pickK rfl (.tmp rfl) (fun hp => (.opt (.tmp rfl) (beq_t hp))) (fun hp => .con)) rfl (lt_b rfl) ?_
  refine GoT.q rfl (QEx.move rfl (.tmp rfl)) rfl (lt_b rfl) ?_
  refine GoT.g rfl rfl rfl (fun hg => QEx.move rfl (.tmp rfl)) rfl (lt_b rfl) ?_
  refine GoT.q rfl (QEx.pickK rfl (.tmp rfl) (fun hp => (.opt (.tmp rfl) (beq_t hp))) (fun hp => .con)) rfl (lt_b rfl) ?_
  refine GoT.q rfl (QEx.move rfl (.tmp rfl)) rfl (lt_b rfl) ?_
  refine GoT.g rfl rfl rfl (fun hg => QEx.move rfl (.tmp rfl)) rfl (lt_b rfl) ?_
  refine GoT.q rfl (QEx.pickK rfl (.tmp rfl) (fun hp => (.opt (.tmp rfl) (beq_t hp))) (fun hp => .con)) rfl (lt_b rfl) ?_
  refine GoT.q rfl (QEx.move rfl (.tmp rfl)) rfl (lt_b rfl) ?_
  refine GoT.g rfl rfl rfl (fun hg => QEx.move rfl (.tmp rfl)) rfl (lt_b rfl) ?_
  refine GoT.q rfl (QEx.pickK rfl (.tmp rfl) (fun hp => (.opt (.tmp rfl) (beq_t hp))) (fun hp => .con)) rfl (lt_b rfl) ?_
  refine GoT.q rfl (QEx.move rfl (.tmp rfl)) rfl (lt_b rfl) ?_
  refine GoT.g rfl rfl rfl (fun hg => QEx.move rfl (.tmp rfl)) rfl (lt_b rfl) ?_
  refine GoT.q rfl (QEx.pickK rfl (.tmp rfl) (fun hp => (.opt (.tmp rfl) (beq_t hp))) (fun hp => .con)) rfl (lt_b rfl) ?_
  refine GoT.q rfl (QEx.move rfl (.tmp rfl)) rfl (lt_b rfl) ?_
  refine GoT.g rfl rfl rfl (fun hg => QEx.fldP 18 rfl Try.underlying29 rfl ts3 rfl (.tmp rfl) rfl) rfl (lt_b rfl) ?_
  refine GoT.gr rfl rfl rfl rfl (fun hg => QEx.ldP1 (Body.cells b) (iAV b.IdleSteps) rfl ag3 (.opt (.tmp rfl) hg) rfl) rfl (lt_b rfl) ?_
  refine GoT.g rfl rfl rfl (fun hg => QEx.cal0 (r := (boolAV r13)) [(iAV b.IdleSteps), (iAV 0), (iAV 1048576)] rfl Try.call59 (.cons (.opt (.tmp rfl) hg) (.cons .con (.cons .con .nil))) (body_within_ok hr13) rfl rfl) rfl (lt_b rfl) ?_
  refine GoT.q rfl (QEx.pickK rfl (.tmp rfl) (fun hp => (.opt (.tmp rfl) (beq_t hp))) (fun hp => .con)) rfl (lt_b rfl) ?_
  refine GoT.q rfl (QEx.eq (QEx.assign rfl (.tmp rfl)) (congrArg boolAV hx14)) rfl (lt_b rfl) ?_
  refine GoT.nil ?_
  refine Wp.ret ?_
  cases h
  exact LeafQ.ret [] (by decide) (.cons (.tmp rfl) .nil) rfl
theorem shape_validCount_ok {s : Shape} {r : Bool} (h : shape_validCount s = r) : FnR Try.prog 78 [(Shape.av s)] (boolAV r) := by
  refine FnR.intro' (fn := Try.f78) (N := 23) Try.func78 rfl rfl (Nat.le_of_ble_eq_true rfl) [1] ?_
  refine Wp.seq ?_
  refine Wp.region ?_
  refine GoT.a rfl (AEx.bx (Z := (Shape.cells s)) rfl (.tmp rfl) rfl rfl rfl rfl) rfl (lt_b rfl) ?_
  refine GoT.q rfl (QEx.as (boolAV false) (QEx.assign rfl .con)) rfl (lt_b rfl) ?_
  refine GoT.nil ?_
  refine Wp.seq ?_
  refine Wp.region ?_
  refine GoT.q rfl (QEx.fldP 2 rfl Try.underlying37 rfl ts35 rfl (.tmp rfl) rfl) rfl (lt_b rfl) ?_
  refine GoT.qr rfl rfl (QEx.ldP1 (Shape.cells s) ((slAV 2 Vec.av) s.Vertices) rfl ag35 (.tmp rfl) rfl) rfl (lt_b rfl) ?_
  refine GoT.q rfl (QEx.lenL rfl ⟨_, Try.underlying35⟩ (.tmp rfl)) rfl (lt_b rfl) ?_
  refine GoT.q rfl (QEx.assign rfl (.tmp rfl)) rfl (lt_b rfl) ?_
  refine GoT.nil ?_
  refine Wp.seq ?_
  refine Wp.seq ?_
  refine Wp.region ?_
  refine GoT.q rfl (QEx.fldP 0 rfl Try.underlying37 rfl ts34 rfl (.tmp rfl) rfl) rfl (lt_b rfl) ?_
  refine GoT.qr rfl rfl (QEx.ldP1 (Shape.cells s) (iAV s.Kind) rfl ag34 (.tmp rfl) rfl) rfl (lt_b rfl) ?_
  refine GoT.nil ?_
  refine Wp.block ?_
  refine let_e h fun x1 hx1 h => ?_
  refine Wp.seq ?_
  refine Wp.region ?_
  refine GoT.q rfl (QEx.eqlK rfl (.tmp rfl) .con) rfl (lt_b rfl) ?_
  refine GoT.q rfl (QEx.eq (QEx.assign rfl (.tmp rfl)) (congrArg boolAV hx1)) rfl (lt_b rfl) ?_
  refine GoT.nil ?_
  refine Wp.condS h rfl (fun h => ?_) (fun h => ?_)
  · refine let_e h fun x2 hx2 h => ?_
    refine Wp.seq ?_
    refine Wp.region ?_
    refine GoT.q rfl (QEx.move rfl (.tmp rfl)) rfl (lt_b rfl) ?_
    refine GoT.q rfl (QEx.eqlK rfl (.tmp rfl) .con) rfl (lt_b rfl) ?_
    refine GoT.q rfl (QEx.eq (QEx.assign rfl (.tmp rfl)) (congrArg boolAV hx2)) rfl (lt_b rfl) ?_
    refine GoT.nil ?_
    refine Wp.ret ?_
    cases h
    exact LeafQ.ret [] (by decide) (.cons (.tmp rfl) .nil) rfl
  · refine let_e h fun x3 hx3 h => ?_
    refine Wp.seq ?_
    refine Wp.region ?_
    refine GoT.q rfl (QEx.eqlK rfl (.tmp rfl) .con) rfl (lt_b rfl) ?_
    refine GoT.q rfl (QEx.eq (QEx.assign rfl (.tmp rfl)) (congrArg boolAV hx3)) rfl (lt_b rfl) ?_
    refine GoT.nil ?_
    refine Wp.condS h rfl (fun h => ?_) (fun h => ?_)
    · refine let_e h fun x4 hx4 h => ?_
      refine Wp.seq ?_
      refine Wp.region ?_
      refine GoT.q rfl (QEx.move rfl (.tmp rfl)) rfl (lt_b rfl) ?_
      refine GoT.q rfl (QEx.eqlK rfl (.tmp rfl) .con) rfl (lt_b rfl) ?_
      refine GoT.q rfl (QEx.eq (QEx.assign rfl (.tmp rfl)) (congrArg boolAV hx4)) rfl (lt_b rfl) ?_
      refine GoT.nil ?_
      refine Wp.ret ?_
      cases h
      exact LeafQ.ret [] (by decide) (.cons (.tmp rfl) .nil) rfl
    · refine Wp.skip ?_
      refine let_e h fun x5 hx5 h => ?_
      refine Wp.seq ?_
      refine Wp.region ?_
      refine GoT.q rfl (QEx.move rfl (.tmp rfl)) rfl (lt_b rfl) ?_
      refine GoT.q rfl (QEx.geqK rfl (.tmp rfl) .con) rfl (lt_b rfl) ?_
      refine GoT.q rfl (QEx.move rfl (.tmp rfl)) rfl (lt_b rfl) ?_
      refine GoT.g rfl rfl rfl (fun hg => QEx.move rfl (.tmp rfl)) rfl (lt_b rfl) ?_
      refine GoT.g rfl rfl rfl (fun hg => QEx.leqK rfl (.opt (.tmp rfl) hg) .con) rfl (lt_b rfl) ?_
      refine GoT.q rfl (QEx.pickK rfl (.tmp rfl) (fun hp => (.opt (.tmp rfl) (beq_t hp))) (fun hp => .con)) rfl (lt_b rfl) ?_
      refine GoT.q rfl (QEx.eq (QEx.assign rfl (.tmp rfl)) (congrArg boolAV hx5)) rfl (lt_b rfl) ?_
      refine GoT.nil ?_
      refine Wp.ret ?_
      cases h
      exact LeafQ.ret [] (by decide) (.cons (.tmp rfl) .nil) rfl
theorem slices_IndexFunc_Vec_ok {s : List Vec} {f : Vec → Option Bool} {fid_1 : Nat} {caps_1 : List AV} (cf_1 : CloR Try.prog fid_1 caps_1 (fun x : Vec => [(Vec.av x)]) boolAV f) {r : Int} (h : slices_IndexFunc_Vec s f = some r) : FnR Try.prog 95 [((slAV 2 Vec.av) s), (.clo fid_1 caps_1)] (iAV r) := by
  refine FnR.intro' (fn := Try.f95) (N := 19) Try.func95 rfl rfl (Nat.le_of_ble_eq_true rfl) [6, 12] ?_
  refine Wp.seq ?_
  refine Wp.region ?_
  refine GoT.q rfl (QEx.as (iAV 0) (QEx.assign rfl .con)) rfl (lt_b rfl) ?_
  refine GoT.nil ?_
  refine Wp.join0 (⟨[], [], [6, 12]⟩) (slices_IndexFunc_Vec_j2 = some r) ?_ ?_
  · intro h
    refine Wp.seq ?_
    refine Wp.region ?_
    refine GoT.q rfl (QEx.as (iAV (-1)) (QEx.assign rfl .con)) rfl (lt_b rfl) ?_
    refine GoT.nil ?_
    refine Wp.ret ?_
    cases h
    exact LeafQ.ret [] (by decide) (.cons (.tmp rfl) .nil) rfl
  · refine Wp.seq ?_
    refine Wp.region ?_
    refine GoT.q rfl (QEx.move rfl (.tmp rfl)) rfl (lt_b rfl) ?_
    refine GoT.q rfl (QEx.lenL rfl ⟨_, Try.underlying35⟩ (.tmp rfl)) rfl (lt_b rfl) ?_
    refine GoT.q rfl (QEx.as (iAV 0) (QEx.move rfl .con)) rfl (lt_b rfl) ?_
    refine GoT.nil ?_
    refine Wp.block ?_
    refine Wp.loop1 (fun v1 => ⟨[(0, ((slAV 2 Vec.av) s)), (1, (.clo fid_1 caps_1)), (7, (iAV ((s).length : Int))), (8, (iAV v1))], [], [6, 12]⟩) (fun n v1 => slices_IndexFunc_Vec_l1 s f slices_IndexFunc_Vec_j2 n v1 = some r) fuel 0 [] [] h (LS.to.mk (.b rfl rfl (.b rfl rfl (.b rfl rfl (.b rfl rfl .n)))) .n rfl) ?_
    rintro (_ | n2) v1 h
    · exact none_e h
    rw [slices_IndexFunc_Vec_l1] at h
    refine Wp.seq ?_
    refine Wp.region ?_
    refine GoT.q rfl (QEx.lssK rfl (.tmp rfl) (.tmp rfl)) rfl (lt_b rfl) ?_
    refine GoT.nil ?_
    refine Wp.seq ?_
    refine Wp.condS h rfl (fun h => ?_) (fun h => ?_)
    · refine Wp.skip ?_
      refine Wp.seq ?_
      refine Wp.block ?_
      refine Wp.seq ?_
      refine Wp.region ?_
      refine GoT.q rfl (QEx.move rfl (.tmp rfl)) rfl (lt_b rfl) ?_
      refine GoT.q rfl (QEx.assign rfl (.tmp rfl)) rfl (lt_b rfl) ?_
      refine GoT.nil ?_
      refine chk_e h fun c2 h => ?_
      refine bind_e h fun r3 hr3 h => ?_
      refine Wp.seq ?_
      refine Wp.region ?_
      refine GoT.q rfl (QEx.move rfl (.tmp rfl)) rfl (lt_b rfl) ?_
      refine GoT.q rfl (QEx.move rfl (.tmp rfl)) rfl (lt_b rfl) ?_
      refine GoT.q rfl (QEx.move rfl (.tmp rfl)) rfl (lt_b rfl) ?_
      refine GoT.q rfl (QEx.as (.cptr (Vec.cells (ix s v1))) (QEx.idxL (E := Vec.av) rfl et35 (.tmp rfl) (.tmp rfl) c2)) rfl (lt_b rfl) ?_
      refine GoT.q rfl (QEx.ldC (x := (Vec.av (ix s v1))) rfl ag24 ts24 (.tmp rfl) (.inl ⟨rfl, rfl, rfl⟩)) rfl (lt_b rfl) ?_
      refine GoT.q rfl (QEx.calC (A := (fun x : Vec => [(Vec.av x)])) (E := boolAV) (g := f) (ix s v1) r3 cf_1 rfl (.tmp rfl) (.cons (.tmp rfl) .nil) rfl hr3 rfl) rfl (lt_b rfl) ?_
      refine GoT.nil ?_
      refine Wp.condS h rfl (fun h => ?_) (fun h => ?_)
      · refine Wp.seq ?_
        refine Wp.region ?_
        refine GoT.q rfl (QEx.move rfl (.tmp rfl)) rfl (lt_b rfl) ?_
        refine GoT.q rfl (QEx.assign rfl (.tmp rfl)) rfl (lt_b rfl) ?_
        refine GoT.nil ?_
        refine Wp.ret ?_
        cases h
        exact LeafQ.ret [] (by decide) (.cons (.tmp rfl) .nil) rfl
      · refine Wp.skip ?_
        refine let_e h fun x4 hx4 h => ?_
        refine Wp.region ?_
        refine GoT.q rfl (QEx.addK rfl (.tmp rfl) .con) rfl (lt_b rfl) ?_
        refine GoT.q rfl (QEx.eq (QEx.move rfl (.tmp rfl)) (congrArg iAV hx4)) rfl (lt_b rfl) ?_
        refine GoT.nil ?_
        exact Round1.mk x4 [] [] h (LS.to.mk (.b rfl rfl (.b rfl rfl (.b rfl rfl (.b rfl rfl .n)))) .n rfl)
    · refine Wp.exit ?_
      exact Joined0.mk [] [] h (LS.to.mk .n .n rfl)
theorem slices_ContainsFunc_Vec_ok {s : List Vec} {f : Vec → Option Bool} {fid_1 : Nat} {caps_1 : List AV} (cf_1 : CloR Try.prog fid_1 caps_1 (fun x : Vec => [(Vec.av x)]) boolAV f) {r : Bool} (h : slices_ContainsFunc_Vec s f = some r) : FnR Try.prog 79 [((slAV 2 Vec.av) s), (.clo fid_1 caps_1)] (boolAV r) := by
  refine FnR.intro' (fn := Try.f79) (N := 9) Try.func79 rfl rfl (Nat.le_of_ble_eq_true rfl) [5] ?_
  refine Wp.seq ?_
  refine Wp.region ?_
  refine GoT.q rfl (QEx.as (boolAV false) (QEx.assign rfl .con)) rfl (lt_b rfl) ?_
  refine GoT.nil ?_
  refine bind_e h fun r1 hr1 h => ?_
  refine let_e h fun x2 hx2 h => ?_
  refine Wp.seq ?_
  refine Wp.region ?_
  refine GoT.q rfl (QEx.move rfl (.tmp rfl)) rfl (lt_b rfl) ?_
  refine GoT.q rfl (QEx.move rfl (.tmp rfl)) rfl (lt_b rfl) ?_
  refine GoT.q rfl (QEx.cal0 (r := (iAV r1)) [((slAV 2 Vec.av) s), (.clo fid_1 caps_1)] rfl Try.call95 (.cons (.tmp rfl) (.cons (.tmp rfl) .nil)) (slices_IndexFunc_Vec_ok cf_1 hr1) rfl rfl) rfl (lt_b rfl) ?_
  refine GoT.q rfl (QEx.geqK rfl (.tmp rfl) .con) rfl (lt_b rfl) ?_
  refine GoT.q rfl (QEx.eq (QEx.assign rfl (.tmp rfl)) (congrArg boolAV hx2)) rfl (lt_b rfl) ?_
  refine GoT.nil ?_
  refine Wp.ret ?_
  cases h
  exact LeafQ.ret [] (by decide) (.cons (.tmp rfl) .nil) rfl
theorem shape_outOfRange_ok {n_0 : Int} {r : Bool} (h : shape_outOfRange n_0 = r) : FnR Try.prog 81 [(iAV n_0)] (boolAV r) := by
  refine FnR.intro' (fn := Try.f81) (N := 9) Try.func81 rfl rfl (Nat.le_of_ble_eq_true rfl) [] ?_
  refine Wp.seq ?_
  refine Wp.region ?_
  refine GoT.q rfl (QEx.as (boolAV false) (QEx.assign rfl .con)) rfl (lt_b rfl) ?_
  refine GoT.nil ?_
  refine let_e h fun x1 hx1 h => ?_
  refine Wp.seq ?_
  refine Wp.region ?_
  refine GoT.q rfl (QEx.move rfl (.tmp rfl)) rfl (lt_b rfl) ?_
  refine GoT.q rfl (QEx.lssK rfl (.tmp rfl) .con) rfl (lt_b rfl) ?_
  refine GoT.q rfl (QEx.move rfl (.tmp rfl)) rfl (lt_b rfl) ?_
  refine GoT.g rfl rfl rfl (fun hg => QEx.move rfl (.tmp rfl)) rfl (lt_b rfl) ?_
  refine GoT.g rfl rfl rfl (fun hg => QEx.gtrK rfl (.opt (.tmp rfl) hg) .con) rfl (lt_b rfl) ?_
  refine GoT.q rfl (QEx.pickK rfl (.tmp rfl) (fun hp => .con) (fun hp => (.opt (.tmp rfl) (beq_f hp)))) rfl (lt_b rfl) ?_
  refine GoT.q rfl (QEx.eq (QEx.assign rfl (.tmp rfl)) (congrArg boolAV hx1)) rfl (lt_b rfl) ?_
  refine GoT.nil ?_
  refine Wp.ret ?_
  cases h
  exact LeafQ.ret [] (by decide) (.cons (.tmp rfl) .nil) rfl
theorem shape_Validate_c1_ok {v_0 : Vec} {r : Bool} (h : shape_Validate_c1 v_0 = r) : FnR Try.prog 80 [(Vec.av v_0)] (boolAV r) := by
  refine FnR.intro' (fn := Try.f80) (N := 11) Try.func80 rfl rfl (Nat.le_of_ble_eq_true rfl) [1] ?_
  refine Wp.seq ?_
  refine Wp.region ?_
  refine GoT.a rfl (AEx.bx (Z := (Vec.cells v_0)) rfl (.tmp rfl) rfl rfl rfl rfl) rfl (lt_b rfl) ?_
  refine GoT.q rfl (QEx.as (boolAV false) (QEx.assign rfl .con)) rfl (lt_b rfl) ?_
  refine GoT.nil ?_
  refine let_e h fun r1 hr1 h => ?_
  refine let_e h fun r2 hr2 h => ?_
  refine let_e h fun x3 hx3 h => ?_
  refine Wp.seq ?_
  refine Wp.region ?_
  refine GoT.q rfl (QEx.fldP 0 rfl Try.underlying24 rfl ts3 rfl (.tmp rfl) rfl) rfl (lt_b rfl) ?_
  refine GoT.qr rfl rfl (QEx.ldP1 (Vec.cells v_0) (iAV v_0.X) rfl ag3 (.tmp rfl) rfl) rfl (lt_b rfl) ?_
  refine GoT.q rfl (QEx.cal0 (r := (boolAV r1)) [(iAV v_0.X)] rfl Try.call81 (.cons (.tmp rfl) .nil) (shape_outOfRange_ok hr1) rfl rfl) rfl (lt_b rfl) ?_
  refine GoT.q rfl (QEx.move rfl (.tmp rfl)) rfl (lt_b rfl) ?_
  refine GoT.g rfl rfl rfl (fun hg => QEx.fldP 1 rfl Try.underlying24 rfl ts3 rfl (.tmp rfl) rfl) rfl (lt_b rfl) ?_
  refine GoT.gr rfl rfl rfl rfl (fun hg => QEx.ldP1 (Vec.cells v_0) (iAV v_0.Y) rfl ag3 (.opt (.tmp rfl) hg) rfl) rfl (lt_b rfl) ?_
  refine GoT.g rfl rfl rfl (fun hg => QEx.cal0 (r := (boolAV r2)) [(iAV v_0.Y)] rfl Try.call81 (.cons (.opt (.tmp rfl) hg) .nil) (shape_outOfRange_ok hr2) rfl rfl) rfl (lt_b rfl) ?_
  refine GoT.q rfl (QEx.pickK rfl (.tmp rfl) (fun hp => .con) (fun hp => (.opt (.tmp rfl) (beq_f hp)))) rfl (lt_b rfl) ?_
  refine GoT.q rfl (QEx.eq (QEx.assign rfl (.tmp rfl)) (congrArg boolAV hx3)) rfl (lt_b rfl) ?_
  refine GoT.nil ?_
  refine Wp.ret ?_
  cases h
  exact LeafQ.ret [] (by decide) (.cons (.tmp rfl) .nil) rfl
theorem fixed_Saturate_ok {x_0 : Int} {r : Int} (h : fixed_Saturate x_0 = r) : FnR Try.prog 54 [(iAV x_0)] (iAV r) := by
  refine FnR.intro' (fn := Try.f54) (N := 6) Try.func54 rfl rfl (Nat.le_of_ble_eq_true rfl) [] ?_
  refine Wp.seq ?_
  refine Wp.region ?_
  refine GoT.q rfl (QEx.as (iAV 0) (QEx.assign rfl .con)) rfl (lt_b rfl) ?_
  refine GoT.nil ?_
  refine let_e h fun x1 hx1 h => ?_
  refine Wp.seq ?_
  refine Wp.region ?_
  refine GoT.q rfl (QEx.move rfl (.tmp rfl)) rfl (lt_b rfl) ?_
  refine GoT.q rfl (QEx.maxK rfl (.tmp rfl) .con) rfl (lt_b rfl) ?_
  refine GoT.q rfl (QEx.minK rfl (.tmp rfl) .con) rfl (lt_b rfl) ?_
  refine GoT.q rfl (QEx.eq (QEx.assign rfl (.tmp rfl)) (congrArg iAV hx1)) rfl (lt_b rfl) ?_
  refine GoT.nil ?_
  refine Wp.ret ?_
  cases h
  exact LeafQ.ret [] (by decide) (.cons (.tmp rfl) .nil) rfl
theorem fixed_Sub_ok {a : Int} {b : Int} {r : Int} (h : fixed_Sub a b = r) : FnR Try.prog 47 [(iAV a), (iAV b)] (iAV r) := by
  refine FnR.intro' (fn := Try.f47) (N := 11) Try.func47 rfl rfl (Nat.le_of_ble_eq_true rfl) [] ?_
  refine Wp.seq ?_
  refine Wp.region ?_
  refine GoT.q rfl (QEx.as (iAV 0) (QEx.assign rfl .con)) rfl (lt_b rfl) ?_
  refine GoT.nil ?_
  refine let_e h fun r1 hr1 h => ?_
  refine let_e h fun r2 hr2 h => ?_
  refine let_e h fun r3 hr3 h => ?_
  refine Wp.seq ?_
  refine Wp.region ?_
  refine GoT.q rfl (QEx.move rfl (.tmp rfl)) rfl (lt_b rfl) ?_
  refine GoT.q rfl (QEx.cal0 (r := (iAV r1)) [(iAV a)] rfl Try.call54 (.cons (.tmp rfl) .nil) (fixed_Saturate_ok hr1) rfl rfl) rfl (lt_b rfl) ?_
  refine GoT.q rfl (QEx.move rfl (.tmp rfl)) rfl (lt_b rfl) ?_
  refine GoT.q rfl (QEx.cal0 (r := (iAV r2)) [(iAV b)] rfl Try.call54 (.cons (.tmp rfl) .nil) (fixed_Saturate_ok hr2) rfl rfl) rfl (lt_b rfl) ?_
  refine GoT.q rfl (QEx.subK rfl (.tmp rfl) (.tmp rfl)) rfl (lt_b rfl) ?_
  refine GoT.q rfl (QEx.cal0 (r := (iAV r3)) [(iAV (w64 (r1 - r2)))] rfl Try.call54 (.cons (.tmp rfl) .nil) (fixed_Saturate_ok hr3) rfl rfl) rfl (lt_b rfl) ?_
  refine GoT.q rfl (QEx.assign rfl (.tmp rfl)) rfl (lt_b rfl) ?_
  refine GoT.nil ?_
  refine Wp.ret ?_
  cases h
  exact LeafQ.ret [] (by decide) (.cons (.tmp rfl) .nil) rfl
theorem vec2_Sub_ok {a : Vec} {b : Vec} {r : Vec} (h : vec2_Sub a b = r) : FnR Try.prog 28 [(Vec.av a), (Vec.av b)] (Vec.av r) := by
  refine FnR.intro' (fn := Try.f28) (N := 16) Try.func28 rfl rfl (Nat.le_of_ble_eq_true rfl) [2, 3, 4] ?_
  refine Wp.seq ?_
  refine Wp.region ?_
  refine GoT.a rfl (AEx.bx (Z := (Vec.cells a)) rfl (.tmp rfl) rfl rfl rfl rfl) rfl (lt_b rfl) ?_
  refine GoT.a rfl (AEx.bx (Z := (Vec.cells b)) rfl (.tmp rfl) rfl rfl rfl rfl) rfl (lt_b rfl) ?_
  refine GoT.a rfl (AEx.alZ rfl zt24 rfl rfl) rfl (lt_b rfl) ?_
  refine GoT.nil ?_
  refine let_e h fun r1 hr1 h => ?_
  refine let_e h fun r2 hr2 h => ?_
  refine let_e h fun x3 hx3 h => ?_
  refine Wp.seq ?_
  refine Wp.drawn2 (n0 := 12) [] mixed ?_
  refine GoD.q rfl (QEx.fldP 0 rfl Try.underlying24 rfl ts3 rfl (.tmp rfl) rfl) rfl (lt_b rfl) ?_
  refine GoD.qr rfl rfl (QEx.ldP1 (Vec.cells a) (iAV a.X) rfl ag3 (.tmp rfl) rfl) rfl (lt_b rfl) ?_
  refine GoD.q rfl (QEx.fldP 0 rfl Try.underlying24 rfl ts3 rfl (.tmp rfl) rfl) rfl (lt_b rfl) ?_
  refine GoD.qr rfl rfl (QEx.ldP1 (Vec.cells b) (iAV b.X) rfl ag3 (.tmp rfl) rfl) rfl (lt_b rfl) ?_
  refine GoD.q rfl (QEx.cal0 (r := (iAV r1)) [(iAV a.X), (iAV b.X)] rfl Try.call47 (.cons (.tmp rfl) (.cons (.tmp rfl) .nil)) (fixed_Sub_ok hr1) rfl rfl) rfl (lt_b rfl) ?_
  refine GoD.q rfl (QEx.fldP 1 rfl Try.underlying24 rfl ts3 rfl (.tmp rfl) rfl) rfl (lt_b rfl) ?_
  refine GoD.qr rfl rfl (QEx.ldP1 (Vec.cells a) (iAV a.Y) rfl ag3 (.tmp rfl) rfl) rfl (lt_b rfl) ?_
  refine GoD.q rfl (QEx.fldP 1 rfl Try.underlying24 rfl ts3 rfl (.tmp rfl) rfl) rfl (lt_b rfl) ?_
  refine GoD.qr rfl rfl (QEx.ldP1 (Vec.cells b) (iAV b.Y) rfl ag3 (.tmp rfl) rfl) rfl (lt_b rfl) ?_
  refine GoD.q rfl (QEx.cal0 (r := (iAV r2)) [(iAV a.Y), (iAV b.Y)] rfl Try.call47 (.cons (.tmp rfl) (.cons (.tmp rfl) .nil)) (fixed_Sub_ok hr2) rfl rfl) rfl (lt_b rfl) ?_
  refine GoD.q rfl (QEx.as (Vec.av (⟨r1, r2⟩ : Vec)) (QEx.buildZ rfl Try.underlying24 zt24 (by kernel_rfl) (.cons rfl (.tmp rfl) rfl rfl (le_b rfl) (.cons rfl (.tmp rfl) rfl rfl (le_b rfl) .nil)))) rfl (lt_b rfl) ?_
  refine GoD.s rfl (Z := (Vec.cells x3)) rfl rfl ts24 (.tmp rfl) rfl (.tmp rfl) rfl rfl (le_b rfl) (congrArg (fun (x : Vec) => (Vec.cells x)) hx3) ?_
  refine GoD.nil ⟨by kernel_rfl, by kernel_rfl, by kernel_rfl, by kernel_rfl, by kernel_rfl, ?_⟩
  refine GoT.nil ?_
  refine Wp.ret ?_
  cases h
  exact LeafQ.ret [] (by decide) (.cons (.agg rfl rfl ag24 ts24) .nil) rfl
theorem vec2_saturate_ok {v_0 : Vec} {r : Vec} (h : vec2_saturate v_0 = r) : FnR Try.prog 56 [(Vec.av v_0)] (Vec.av r) := by
  refine FnR.intro' (fn := Try.f56) (N := 10) Try.func56 rfl rfl (Nat.le_of_ble_eq_true rfl) [1, 2] ?_
  refine Wp.seq ?_
  refine Wp.region ?_
  refine GoT.a rfl (AEx.bx (Z := (Vec.cells v_0)) rfl (.tmp rfl) rfl rfl rfl rfl) rfl (lt_b rfl) ?_
  refine GoT.a rfl (AEx.alZ rfl zt24 rfl rfl) rfl (lt_b rfl) ?_
  refine GoT.nil ?_
  refine let_e h fun r1 hr1 h => ?_
  refine let_e h fun r2 hr2 h => ?_
  refine let_e h fun x3 hx3 h => ?_
  refine Wp.seq ?_
  refine Wp.drawn2 (n0 := 8) [] mixed ?_
  refine GoD.q rfl (QEx.fldP 0 rfl Try.underlying24 rfl ts3 rfl (.tmp rfl) rfl) rfl (lt_b rfl) ?_
  refine GoD.qr rfl rfl (QEx.ldP1 (Vec.cells v_0) (iAV v_0.X) rfl ag3 (.tmp rfl) rfl) rfl (lt_b rfl) ?_
  refine GoD.q rfl (QEx.cal0 (r := (iAV r1)) [(iAV v_0.X)] rfl Try.call54 (.cons (.tmp rfl) .nil) (fixed_Saturate_ok hr1) rfl rfl) rfl (lt_b rfl) ?_
  refine GoD.q rfl (QEx.fldP 1 rfl Try.underlying24 rfl ts3 rfl (.tmp rfl) rfl) rfl (lt_b rfl) ?_
  refine GoD.qr rfl rfl (QEx.ldP1 (Vec.cells v_0) (iAV v_0.Y) rfl ag3 (.tmp rfl) rfl) rfl (lt_b rfl) ?_
  refine GoD.q rfl (QEx.cal0 (r := (iAV r2)) [(iAV v_0.Y)] rfl Try.call54 (.cons (.tmp rfl) .nil) (fixed_Saturate_ok hr2) rfl rfl) rfl (lt_b rfl) ?_
  refine GoD.q rfl (QEx.as (Vec.av (⟨r1, r2⟩ : Vec)) (QEx.buildZ rfl Try.underlying24 zt24 (by kernel_rfl) (.cons rfl (.tmp rfl) rfl rfl (le_b rfl) (.cons rfl (.tmp rfl) rfl rfl (le_b rfl) .nil)))) rfl (lt_b rfl) ?_
  refine GoD.s rfl (Z := (Vec.cells x3)) rfl rfl ts24 (.tmp rfl) rfl (.tmp rfl) rfl rfl (le_b rfl) (congrArg (fun (x : Vec) => (Vec.cells x)) hx3) ?_
  refine GoD.nil ⟨by kernel_rfl, by kernel_rfl, by kernel_rfl, by kernel_rfl, by kernel_rfl, ?_⟩
  refine GoT.nil ?_
  refine Wp.ret ?_
  cases h
  exact LeafQ.ret [] (by decide) (.cons (.agg rfl rfl ag24 ts24) .nil) rfl
theorem vec2_DistanceSquared_ok {a : Vec} {b : Vec} {r : Int} (h : vec2_DistanceSquared a b = r) : FnR Try.prog 67 [(Vec.av a), (Vec.av b)] (iAV r) := by
  refine FnR.intro' (fn := Try.f67) (N := 28) Try.func67 rfl rfl (Nat.le_of_ble_eq_true rfl) [2, 3] ?_
  refine Wp.seq ?_
  refine Wp.region ?_
  refine GoT.a rfl (AEx.bx (Z := (Vec.cells a)) rfl (.tmp rfl) rfl rfl rfl rfl) rfl (lt_b rfl) ?_
  refine GoT.a rfl (AEx.bx (Z := (Vec.cells b)) rfl (.tmp rfl) rfl rfl rfl rfl) rfl (lt_b rfl) ?_
  refine GoT.q rfl (QEx.as (iAV 0) (QEx.assign rfl .con)) rfl (lt_b rfl) ?_
  refine GoT.nil ?_
  refine let_e h fun r1 hr1 h => ?_
  refine let_e h fun r2 hr2 h => ?_
  refine let_e h fun x3 hx3 h => ?_
  refine let_e h fun x4 hx4 h => ?_
  refine Wp.seq ?_
  refine Wp.drawn2 (n0 := 6) [] mixed ?_
  refine GoD.qr rfl rfl (QEx.ldP (Vec.cells a) (Vec.av a) rfl ag24 ts24 (.tmp rfl) (le_b rfl) rfl) rfl (lt_b rfl) ?_
  refine GoD.q rfl (QEx.cal0 (r := (Vec.av r1)) [(Vec.av a)] rfl Try.call56 (.cons (.tmp rfl) .nil) (vec2_saturate_ok hr1) rfl rfl) rfl (lt_b rfl) ?_
  refine GoD.qr rfl rfl (QEx.ldP (Vec.cells b) (Vec.av b) rfl ag24 ts24 (.tmp rfl) (le_b rfl) rfl) rfl (lt_b rfl) ?_
  refine GoD.q rfl (QEx.cal0 (r := (Vec.av r2)) [(Vec.av b)] rfl Try.call56 (.cons (.tmp rfl) .nil) (vec2_saturate_ok hr2) rfl rfl) rfl (lt_b rfl) ?_
  refine GoD.s rfl (Z := (Vec.cells x3)) rfl rfl ts24 (.tmp rfl) rfl (.tmp rfl) rfl rfl (le_b rfl) (congrArg (fun (x : Vec) => (Vec.cells x)) hx3) ?_
  refine GoD.s rfl (Z := (Vec.cells x4)) rfl rfl ts24 (.tmp rfl) rfl (.tmp rfl) rfl rfl (le_b rfl) (congrArg (fun (x : Vec) => (Vec.cells x)) hx4) ?_
  refine GoD.nil ⟨by kernel_rfl, by kernel_rfl, by kernel_rfl, by kernel_rfl, by kernel_rfl, ?_⟩
  refine GoT.nil ?_
  refine let_e h fun x5 hx5 h => ?_
  refine let_e h fun x6 hx6 h => ?_
  refine Wp.seq ?_
  refine Wp.drawn2 (n0 := 12) [] mixed ?_
  refine GoD.q rfl (QEx.fldP 0 rfl Try.underlying24 rfl ts3 rfl (.tmp rfl) rfl) rfl (lt_b rfl) ?_
  refine GoD.qr rfl rfl (QEx.ldP1 (Vec.cells x4) (iAV x4.X) rfl ag3 (.tmp rfl) rfl) rfl (lt_b rfl) ?_
  refine GoD.q rfl (QEx.fldP 0 rfl Try.underlying24 rfl ts3 rfl (.tmp rfl) rfl) rfl (lt_b rfl) ?_
  refine GoD.qr rfl rfl (QEx.ldP1 (Vec.cells x3) (iAV x3.X) rfl ag3 (.tmp rfl) rfl) rfl (lt_b rfl) ?_
  refine GoD.q rfl (QEx.subK rfl (.tmp rfl) (.tmp rfl)) rfl (lt_b rfl) ?_
  refine GoD.q rfl (QEx.fldP 1 rfl Try.underlying24 rfl ts3 rfl (.tmp rfl) rfl) rfl (lt_b rfl) ?_
  refine GoD.qr rfl rfl (QEx.ldP1 (Vec.cells x4) (iAV x4.Y) rfl ag3 (.tmp rfl) rfl) rfl (lt_b rfl) ?_
  refine GoD.q rfl (QEx.fldP 1 rfl Try.underlying24 rfl ts3 rfl (.tmp rfl) rfl) rfl (lt_b rfl) ?_
  refine GoD.qr rfl rfl (QEx.ldP1 (Vec.cells x3) (iAV x3.Y) rfl ag3 (.tmp rfl) rfl) rfl (lt_b rfl) ?_
  refine GoD.q rfl (QEx.subK rfl (.tmp rfl) (.tmp rfl)) rfl (lt_b rfl) ?_
  refine GoD.q rfl (QEx.eq (QEx.assign rfl (.tmp rfl)) (congrArg iAV hx5)) rfl (lt_b rfl) ?_
  refine GoD.q rfl (QEx.eq (QEx.assign rfl (.tmp rfl)) (congrArg iAV hx6)) rfl (lt_b rfl) ?_
  refine GoD.nil ⟨by kernel_rfl, by kernel_rfl, by kernel_rfl, by kernel_rfl, by kernel_rfl, ?_⟩
  refine GoT.nil ?_
  refine let_e h fun x7 hx7 h => ?_
  refine Wp.seq ?_
  refine Wp.region ?_
  refine GoT.q rfl (QEx.move rfl (.tmp rfl)) rfl (lt_b rfl) ?_
  refine GoT.q rfl (QEx.move rfl (.tmp rfl)) rfl (lt_b rfl) ?_
  refine GoT.q rfl (QEx.mulK rfl (.tmp rfl) (.tmp rfl)) rfl (lt_b rfl) ?_
  refine GoT.q rfl (QEx.move rfl (.tmp rfl)) rfl (lt_b rfl) ?_
  refine GoT.q rfl (QEx.move rfl (.tmp rfl)) rfl (lt_b rfl) ?_
  refine GoT.q rfl (QEx.mulK rfl (.tmp rfl) (.tmp rfl)) rfl (lt_b rfl) ?_
  refine GoT.q rfl (QEx.addK rfl (.tmp rfl) (.tmp rfl)) rfl (lt_b rfl) ?_
  refine GoT.q rfl (QEx.eq (QEx.assign rfl (.tmp rfl)) (congrArg iAV hx7)) rfl (lt_b rfl) ?_
  refine GoT.nil ?_
  refine Wp.ret ?_
  cases h
  exact LeafQ.ret [] (by decide) (.cons (.tmp rfl) .nil) rfl
theorem fixed_Isqrt_ok {n_0 : Int} {r : Int} (h : fixed_Isqrt n_0 = some r) : FnR Try.prog 66 [(iAV n_0)] (iAV r) := by
  refine FnR.intro' (fn := Try.f66) (N := 29) Try.func66 rfl rfl (Nat.le_of_ble_eq_true rfl) [] ?_
  refine Wp.seq ?_
  refine Wp.region ?_
  refine GoT.q rfl (QEx.as (iAV 0) (QEx.assign rfl .con)) rfl (lt_b rfl) ?_
  refine GoT.nil ?_
  refine Wp.seq ?_
  refine Wp.seq ?_
  refine Wp.region ?_
  refine GoT.q rfl (QEx.move rfl (.tmp rfl)) rfl (lt_b rfl) ?_
  refine GoT.q rfl (QEx.lssK rfl (.tmp rfl) .con) rfl (lt_b rfl) ?_
  refine GoT.q rfl (QEx.move rfl (.tmp rfl)) rfl (lt_b rfl) ?_
  refine GoT.g rfl rfl rfl (fun hg => QEx.move rfl (.tmp rfl)) rfl (lt_b rfl) ?_
  refine GoT.g rfl rfl rfl (fun hg => QEx.gtrK rfl (.opt (.tmp rfl) hg) .con) rfl (lt_b rfl) ?_
  refine GoT.q rfl (QEx.pickK rfl (.tmp rfl) (fun hp => .con) (fun hp => (.opt (.tmp rfl) (beq_f hp)))) rfl (lt_b rfl) ?_
  refine GoT.nil ?_
  refine Wp.condS h rfl (fun h => ?_) (fun h => ?_)
  · refine Wp.seq ?_
    refine Wp.region ?_
    refine GoT.q rfl (QEx.as (iAV 0) (QEx.assign rfl .con)) rfl (lt_b rfl) ?_
    refine GoT.nil ?_
    refine Wp.ret ?_
    cases h
    exact LeafQ.ret [] (by decide) (.cons (.tmp rfl) .nil) rfl
  · refine Wp.skip ?_
    refine Wp.seq ?_
    refine Wp.region ?_
    refine GoT.q rfl (QEx.as (iAV 0) (QEx.assign rfl .con)) rfl (lt_b rfl) ?_
    refine GoT.nil ?_
    refine Wp.join1 (fun v1 => ⟨[(3, (iAV v1))], [], []⟩) (fun v1 => fixed_Isqrt_j3 v1 = some r) ?_ ?_
    · intro v1 h
      refine Wp.seq ?_
      refine Wp.region ?_
      refine GoT.q rfl (QEx.move rfl (.tmp rfl)) rfl (lt_b rfl) ?_
      refine GoT.q rfl (QEx.assign rfl (.tmp rfl)) rfl (lt_b rfl) ?_
      refine GoT.nil ?_
      refine Wp.ret ?_
      cases h
      exact LeafQ.ret [] (by decide) (.cons (.tmp rfl) .nil) rfl
    · refine Wp.seq ?_
      refine Wp.region ?_
      refine GoT.q rfl (QEx.as (iAV 2147483648) (QEx.assign rfl .con)) rfl (lt_b rfl) ?_
      refine GoT.nil ?_
      refine Wp.block ?_
      refine Wp.loop2 (fun v2 v3 => ⟨[(0, (iAV n_0)), (3, (iAV v2)), (4, (iAV v3))], [], []⟩) (fun n v2 v3 => fixed_Isqrt_l2 n_0 fixed_Isqrt_j3 n v2 v3 = some r) fuel 0 2147483648 [] [] h (LS.to.mk (.b rfl rfl (.b rfl rfl (.b rfl rfl .n))) .n rfl) ?_
      rintro (_ | n2) v2 v3 h
      · exact none_e h
      rw [fixed_Isqrt_l2] at h
      refine Wp.seq ?_
      refine Wp.seq ?_
      refine Wp.region ?_
      refine GoT.q rfl (QEx.move rfl (.tmp rfl)) rfl (lt_b rfl) ?_
      refine GoT.q rfl (QEx.gtrK rfl (.tmp rfl) .con) rfl (lt_b rfl) ?_
      refine GoT.nil ?_
      refine Wp.condS h rfl (fun h => ?_) (fun h => ?_)
      · refine Wp.skip ?_
        refine Wp.join1 (fun v4 => ⟨[(0, (iAV n_0)), (3, (iAV v4)), (4, (iAV v3))], [], []⟩) (fun v4 => (fixed_Isqrt_j1 v3 (fixed_Isqrt_l2 n_0 fixed_Isqrt_j3 n2)) v4 = some r) ?_ ?_
        · intro v4 h
          refine let_e h fun x7 hx7 h => ?_
          refine Wp.region ?_
          refine GoT.q rfl (QEx.move rfl (.tmp rfl)) rfl (lt_b rfl) ?_
          refine GoT.q rfl (QEx.shrK rfl (.tmp rfl) .con (by decide)) rfl (lt_b rfl) ?_
          refine GoT.q rfl (QEx.eq (QEx.assign rfl (.tmp rfl)) (congrArg iAV hx7)) rfl (lt_b rfl) ?_
          refine GoT.nil ?_
          exact Round2.mk v4 x7 [] [] h (LS.to.mk (.b rfl rfl (.b rfl rfl (.b rfl rfl .n))) .n rfl)
        · refine Wp.block ?_
          refine let_e h fun x5 hx5 h => ?_
          refine Wp.seq ?_
          refine Wp.region ?_
          refine GoT.q rfl (QEx.move rfl (.tmp rfl)) rfl (lt_b rfl) ?_
          refine GoT.q rfl (QEx.move rfl (.tmp rfl)) rfl (lt_b rfl) ?_
          refine GoT.q rfl (QEx.orK rfl (.tmp rfl) (.tmp rfl)) rfl (lt_b rfl) ?_
          refine GoT.q rfl (QEx.eq (QEx.assign rfl (.tmp rfl)) (congrArg iAV hx5)) rfl (lt_b rfl) ?_
          refine GoT.nil ?_
          refine let_e h fun x6 hx6 h => ?_
          refine Wp.seq ?_
          refine Wp.region ?_
          refine GoT.q rfl (QEx.move rfl (.tmp rfl)) rfl (lt_b rfl) ?_
          refine GoT.q rfl (QEx.cvKK rfl Try.underlying106 (by rw [Try.underlying3]; rfl) (.tmp rfl)) rfl (lt_b rfl) ?_
          refine GoT.q rfl (QEx.move rfl (.tmp rfl)) rfl (lt_b rfl) ?_
          refine GoT.q rfl (QEx.cvKK rfl Try.underlying106 (by rw [Try.underlying3]; rfl) (.tmp rfl)) rfl (lt_b rfl) ?_
          refine GoT.q rfl (QEx.eq (QEx.mulK rfl (.tmp rfl) (.tmp rfl)) (congrArg (kAV .u64) hx6)) rfl (lt_b rfl) ?_
          refine GoT.q rfl (QEx.move rfl (.tmp rfl)) rfl (lt_b rfl) ?_
          refine GoT.q rfl (QEx.cvKK rfl Try.underlying106 (by rw [Try.underlying3]; rfl) (.tmp rfl)) rfl (lt_b rfl) ?_
          refine GoT.q rfl (QEx.leqK rfl (.tmp rfl) (.tmp rfl)) rfl (lt_b rfl) ?_
          refine GoT.nil ?_
          refine Wp.condS h rfl (fun h => ?_) (fun h => ?_)
          · refine Wp.region ?_
            refine GoT.q rfl (QEx.move rfl (.tmp rfl)) rfl (lt_b rfl) ?_
            refine GoT.q rfl (QEx.assign rfl (.tmp rfl)) rfl (lt_b rfl) ?_
            refine GoT.nil ?_
            exact Joined1.mk x5 [] [] h (LS.to.mk (.b rfl rfl (.b rfl rfl (.b rfl rfl .n))) .n rfl)
          · refine Wp.skip ?_
            exact Joined1.mk v2 [] [] h (LS.to.mk (.b rfl rfl (.b rfl rfl (.b rfl rfl .n))) .n rfl)
      · refine Wp.exit ?_
        exact Joined1.mk v2 [] [] h (LS.to.mk (.b rfl rfl .n) .n rfl)
theorem vec2_Length_ok {v_0 : Vec} {r : Int} (h : vec2_Length v_0 = some r) : FnR Try.prog 42 [(Vec.av v_0)] (iAV r) := by
  refine FnR.intro' (fn := Try.f42) (N := 7) Try.func42 rfl rfl (Nat.le_of_ble_eq_true rfl) [1] ?_
  refine Wp.seq ?_
  refine Wp.region ?_
  refine GoT.a rfl (AEx.bx (Z := (Vec.cells v_0)) rfl (.tmp rfl) rfl rfl rfl rfl) rfl (lt_b rfl) ?_
  refine GoT.q rfl (QEx.as (iAV 0) (QEx.assign rfl .con)) rfl (lt_b rfl) ?_
  refine GoT.nil ?_
  refine let_e h fun r1 hr1 h => ?_
  refine bind_e h fun r2 hr2 h => ?_
  refine Wp.seq ?_
  refine Wp.region ?_
  refine GoT.q rfl (QEx.as (Vec.av (⟨0, 0⟩ : Vec)) (QEx.buildZ rfl Try.underlying24 zt24 (by kernel_rfl) .nil)) rfl (lt_b rfl) ?_
  refine GoT.qr rfl rfl (QEx.ldP (Vec.cells v_0) (Vec.av v_0) rfl ag24 ts24 (.tmp rfl) (le_b rfl) rfl) rfl (lt_b rfl) ?_
  refine GoT.q rfl (QEx.cal0 (r := (iAV r1)) [(Vec.av (⟨0, 0⟩ : Vec)), (Vec.av v_0)] rfl Try.call67 (.cons (.tmp rfl) (.cons (.tmp rfl) .nil)) (vec2_DistanceSquared_ok hr1) rfl rfl) rfl (lt_b rfl) ?_
  refine GoT.q rfl (QEx.cal0 (r := (iAV r2)) [(iAV r1)] rfl Try.call66 (.cons (.tmp rfl) .nil) (fixed_Isqrt_ok hr2) rfl rfl) rfl (lt_b rfl) ?_
  refine GoT.q rfl (QEx.assign rfl (.tmp rfl)) rfl (lt_b rfl) ?_
  refine GoT.nil ?_
  refine Wp.ret ?_
  cases h
  exact LeafQ.ret [] (by decide) (.cons (.tmp rfl) .nil) rfl
theorem polygon_inReach_ok {v_0 : Vec} {r : Bool} (h : polygon_inReach v_0 = r) : FnR Try.prog 108 [(Vec.av v_0)] (boolAV r) := by
  refine FnR.intro' (fn := Try.f108) (N := 21) Try.func108 rfl rfl (Nat.le_of_ble_eq_true rfl) [1] ?_
  refine Wp.seq ?_
  refine Wp.region ?_
  refine GoT.a rfl (AEx.bx (Z := (Vec.cells v_0)) rfl (.tmp rfl) rfl rfl rfl rfl) rfl (lt_b rfl) ?_
  refine GoT.q rfl (QEx.as (boolAV false) (QEx.assign rfl .con)) rfl (lt_b rfl) ?_
  refine GoT.nil ?_
  refine let_e h fun x1 hx1 h => ?_
  refine Wp.seq ?_
  refine Wp.region ?_
  refine GoT.q rfl (QEx.fldP 0 rfl Try.underlying24 rfl ts3 rfl (.tmp rfl) rfl) rfl (lt_b rfl) ?_
  refine GoT.qr rfl rfl (QEx.ldP1 (Vec.cells v_0) (iAV v_0.X) rfl ag3 (.tmp rfl) rfl) rfl (lt_b rfl) ?_
  refine GoT.q rfl (QEx.geqK rfl (.tmp rfl) .con) rfl (lt_b rfl) ?_
  refine GoT.q rfl (QEx.move rfl (.tmp rfl)) rfl (lt_b rfl) ?_
  refine GoT.g rfl rfl rfl (fun hg => QEx.fldP 0 rfl Try.underlying24 rfl ts3 rfl (.tmp rfl) rfl) rfl (lt_b rfl) ?_
  refine GoT.gr rfl rfl rfl rfl (fun hg => QEx.ldP1 (Vec.cells v_0) (iAV v_0.X) rfl ag3 (.opt (.tmp rfl) hg) rfl) rfl (lt_b rfl) ?_
  refine GoT.g rfl rfl rfl (fun hg => QEx.leqK rfl (.opt (.tmp rfl) hg) .con) rfl (lt_b rfl) ?_
  refine GoT.q rfl (QEx.pickK rfl (.tmp rfl) (fun hp => (.opt (.tmp rfl) (beq_t hp))) (fun hp => .con)) rfl (lt_b rfl) ?_
  refine GoT.q rfl (QEx.move rfl (.tmp rfl)) rfl (lt_b rfl) ?_
  refine GoT.g rfl rfl rfl (fun hg => QEx.fldP 1 rfl Try.underlying24 rfl ts3 rfl (.tmp rfl) rfl) rfl (lt_b rfl) ?_
  refine GoT.gr rfl rfl rfl rfl (fun hg => QEx.ldP1 (Vec.cells v_0) (iAV v_0.Y) rfl ag3 (.opt (.tmp rfl) hg) rfl) rfl (lt_b rfl) ?_
  refine GoT.g rfl rfl rfl (fun hg => QEx.geqK rfl (.opt (.tmp rfl) hg) .con) rfl (lt_b rfl) ?_
  refine GoT.q rfl (QEx.pickK rfl (.tmp rfl) (fun hp => (.opt (.tmp rfl) (beq_t hp))) (fun hp => .con)) rfl (lt_b rfl) ?_
  refine GoT.q rfl (QEx.move rfl (.tmp rfl)) rfl (lt_b rfl) ?_
  refine GoT.g rfl rfl rfl (fun hg => QEx.fldP 1 rfl Try.underlying24 rfl ts3 rfl (.tmp rfl) rfl) rfl (lt_b rfl) ?_
  refine GoT.gr rfl rfl rfl rfl (fun hg => QEx.ldP1 (Vec.cells v_0) (iAV v_0.Y) rfl ag3 (.opt (.tmp rfl) hg) rfl) rfl (lt_b rfl) ?_
  refine GoT.g rfl rfl rfl (fun hg => QEx.leqK rfl (.opt (.tmp rfl) hg) .con) rfl (lt_b rfl) ?_
  refine GoT.q rfl (QEx.pickK rfl (.tmp rfl) (fun hp => (.opt (.tmp rfl) (beq_t hp))) (fun hp => .con)) rfl (lt_b rfl) ?_
  refine GoT.q rfl (QEx.eq (QEx.assign rfl (.tmp rfl)) (congrArg boolAV hx1)) rfl (lt_b rfl) ?_
  refine GoT.nil ?_
  refine Wp.ret ?_
  cases h
  exact LeafQ.ret [] (by decide) (.cons (.tmp rfl) .nil) rfl
theorem polygon_allInReach_ok {points : List Vec} {r : Bool} (h : polygon_allInReach points = some r) : FnR Try.prog 96 [((slAV 2 Vec.av) points)] (boolAV r) := by
  refine FnR.intro' (fn := Try.f96) (N := 15) Try.func96 rfl rfl (Nat.le_of_ble_eq_true rfl) [4, 5] ?_
  refine Wp.seq ?_
  refine Wp.region ?_
  refine GoT.q rfl (QEx.as (boolAV false) (QEx.assign rfl .con)) rfl (lt_b rfl) ?_
  refine GoT.nil ?_
  refine Wp.join0 (⟨[], [], [4, 5]⟩) (polygon_allInReach_j2 = some r) ?_ ?_
  · intro h
    refine Wp.seq ?_
    refine Wp.region ?_
    refine GoT.q rfl (QEx.as (boolAV true) (QEx.assign rfl .con)) rfl (lt_b rfl) ?_
    refine GoT.nil ?_
    refine Wp.ret ?_
    cases h
    exact LeafQ.ret [] (by decide) (.cons (.tmp rfl) .nil) rfl
  · refine Wp.seq ?_
    refine Wp.region ?_
    refine GoT.q rfl (QEx.move rfl (.tmp rfl)) rfl (lt_b rfl) ?_
    refine GoT.q rfl (QEx.lenL rfl ⟨_, Try.underlying35⟩ (.tmp rfl)) rfl (lt_b rfl) ?_
    refine GoT.q rfl (QEx.as (iAV 0) (QEx.move rfl .con)) rfl (lt_b rfl) ?_
    refine GoT.nil ?_
    refine Wp.block ?_
    refine Wp.loop1 (fun v1 => ⟨[(5, ((slAV 2 Vec.av) points)), (6, (iAV ((points).length : Int))), (7, (iAV v1))], [], [4, 5]⟩) (fun n v1 => polygon_allInReach_l1 points polygon_allInReach_j2 n v1 = some r) fuel 0 [] [] h (LS.to.mk (.b rfl rfl (.b rfl rfl (.b rfl rfl .n))) .n rfl) ?_
    rintro (_ | n2) v1 h
    · exact none_e h
    rw [polygon_allInReach_l1] at h
    refine Wp.seq ?_
    refine Wp.region ?_
    refine GoT.q rfl (QEx.lssK rfl (.tmp rfl) (.tmp rfl)) rfl (lt_b rfl) ?_
    refine GoT.nil ?_
    refine Wp.seq ?_
    refine Wp.condS h rfl (fun h => ?_) (fun h => ?_)
    · refine Wp.skip ?_
      refine Wp.seq ?_
      refine Wp.block ?_
      refine chk_e h fun c2 h => ?_
      refine let_e h fun x3 hx3 h => ?_
      refine Wp.seq ?_
      refine Wp.region ?_
      refine GoT.q rfl (QEx.as (.cptr (Vec.cells (ix points v1))) (QEx.idxL (E := Vec.av) rfl et35 (.tmp rfl) (.tmp rfl) c2)) rfl (lt_b rfl) ?_
      refine GoT.q rfl (QEx.ldC (x := (Vec.av (ix points v1))) rfl ag24 ts24 (.tmp rfl) (.inl ⟨rfl, rfl, rfl⟩)) rfl (lt_b rfl) ?_
      refine GoT.a rfl (AEx.alZ rfl zt24 rfl rfl) rfl (lt_b rfl) ?_
      refine GoT.s rfl (AEx.sto (Z := (Vec.cells x3)) rfl rfl ts24 (.tmp rfl) rfl (.tmp rfl) rfl rfl (le_b rfl) (congrArg (fun (x : Vec) => (Vec.cells x)) hx3)) rfl ?_
      refine GoT.nil ?_
      refine let_e h fun r4 hr4 h => ?_
      refine Wp.seq ?_
      refine Wp.region ?_
      refine GoT.qr rfl rfl (QEx.ldP (Vec.cells x3) (Vec.av x3) rfl ag24 ts24 (.tmp rfl) (le_b rfl) rfl) rfl (lt_b rfl) ?_
      refine GoT.q rfl (QEx.cal0 (r := (boolAV r4)) [(Vec.av x3)] rfl Try.call108 (.cons (.tmp rfl) .nil) (polygon_inReach_ok hr4) rfl rfl) rfl (lt_b rfl) ?_
      refine GoT.q rfl (QEx.notK rfl (.tmp rfl)) rfl (lt_b rfl) ?_
      refine GoT.nil ?_
      refine Wp.condS h rfl (fun h => ?_) (fun h => ?_)
      · refine Wp.seq ?_
        refine Wp.region ?_
        refine GoT.q rfl (QEx.as (boolAV false) (QEx.assign rfl .con)) rfl (lt_b rfl) ?_
        refine GoT.nil ?_
        refine Wp.ret ?_
        cases h
        exact LeafQ.ret [] (by decide) (.cons (.tmp rfl) .nil) rfl
      · refine Wp.skip ?_
        refine let_e h fun x5 hx5 h => ?_
        refine Wp.region ?_
        refine GoT.q rfl (QEx.addK rfl (.tmp rfl) .con) rfl (lt_b rfl) ?_
        refine GoT.q rfl (QEx.eq (QEx.move rfl (.tmp rfl)) (congrArg iAV hx5)) rfl (lt_b rfl) ?_
        refine GoT.nil ?_
        exact Round1.mk x5 [4] [] h (LS.to.mk (.b rfl rfl (.b rfl rfl (.b rfl rfl .n))) .n rfl)
    · refine Wp.exit ?_
      exact Joined0.mk [] [] h (LS.to.mk .n .n rfl)
theorem vec2_Orientation_ok {a : Vec} {b : Vec} {c_2 : Vec} {r : Int} (h : vec2_Orientation a b c_2 = r) : FnR Try.prog 44 [(Vec.av a), (Vec.av b), (Vec.av c_2)] (iAV r) := by
  refine FnR.intro' (fn := Try.f44) (N := 40) Try.func44 rfl rfl (Nat.le_of_ble_eq_true rfl) [3, 4, 5] ?_
  refine Wp.seq ?_
  refine Wp.region ?_
  refine GoT.a rfl (AEx.bx (Z := (Vec.cells a)) rfl (.tmp rfl) rfl rfl rfl rfl) rfl (lt_b rfl) ?_
  refine GoT.a rfl (AEx.bx (Z := (Vec.cells b)) rfl (.tmp rfl) rfl rfl rfl rfl) rfl (lt_b rfl) ?_
  refine GoT.a rfl (AEx.bx (Z := (Vec.cells c_2)) rfl (.tmp rfl) rfl rfl rfl rfl) rfl (lt_b rfl) ?_
  refine GoT.q rfl (QEx.as (iAV 0) (QEx.assign rfl .con)) rfl (lt_b rfl) ?_
  refine GoT.nil ?_
  refine let_e h fun r1 hr1 h => ?_
  refine let_e h fun r2 hr2 h => ?_
  refine let_e h fun r3 hr3 h => ?_
  refine let_e h fun x4 hx4 h => ?_
  refine let_e h fun x5 hx5 h => ?_
  refine let_e h fun x6 hx6 h => ?_
  refine Wp.seq ?_
  refine Wp.drawn2 (n0 := 9) [] mixed ?_
  refine GoD.qr rfl rfl (QEx.ldP (Vec.cells a) (Vec.av a) rfl ag24 ts24 (.tmp rfl) (le_b rfl) rfl) rfl (lt_b rfl) ?_
  refine GoD.q rfl (QEx.cal0 (r := (Vec.av r1)) [(Vec.av a)] rfl Try.call56 (.cons (.tmp rfl) .nil) (vec2_saturate_ok hr1) rfl rfl) rfl (lt_b rfl) ?_
  refine GoD.qr rfl rfl (QEx.ldP (Vec.cells b) (Vec.av b) rfl ag24 ts24 (.tmp rfl) (le_b rfl) rfl) rfl (lt_b rfl) ?_
  refine GoD.q rfl (QEx.cal0 (r := (Vec.av r2)) [(Vec.av b)] rfl Try.call56 (.cons (.tmp rfl) .nil) (vec2_saturate_ok hr2) rfl rfl) rfl (lt_b rfl) ?_
  refine GoD.qr rfl rfl (QEx.ldP (Vec.cells c_2) (Vec.av c_2) rfl ag24 ts24 (.tmp rfl) (le_b rfl) rfl) rfl (lt_b rfl) ?_
  refine GoD.q rfl (QEx.cal0 (r := (Vec.av r3)) [(Vec.av c_2)] rfl Try.call56 (.cons (.tmp rfl) .nil) (vec2_saturate_ok hr3) rfl rfl) rfl (lt_b rfl) ?_
  refine GoD.s rfl (Z := (Vec.cells x4)) rfl rfl ts24 (.tmp rfl) rfl (.tmp rfl) rfl rfl (le_b rfl) (congrArg (fun (x : Vec) => (Vec.cells x)) hx4) ?_
  refine GoD.s rfl (Z := (Vec.cells x5)) rfl rfl ts24 (.tmp rfl) rfl (.tmp rfl) rfl rfl (le_b rfl) (congrArg (fun (x : Vec) => (Vec.cells x)) hx5) ?_
  refine GoD.s rfl (Z := (Vec.cells x6)) rfl rfl ts24 (.tmp rfl) rfl (.tmp rfl) rfl rfl (le_b rfl) (congrArg (fun (x : Vec) => (Vec.cells x)) hx6) ?_
  refine GoD.nil ⟨by kernel_rfl, by kernel_rfl, by kernel_rfl, by kernel_rfl, by kernel_rfl, ?_⟩
  refine GoT.nil ?_
  refine let_e h fun x7 hx7 h => ?_
  refine Wp.seq ?_
  refine Wp.region ?_
  refine GoT.q rfl (QEx.fldP 0 rfl Try.underlying24 rfl ts3 rfl (.tmp rfl) rfl) rfl (lt_b rfl) ?_
  refine GoT.qr rfl rfl (QEx.ldP1 (Vec.cells x5) (iAV x5.X) rfl ag3 (.tmp rfl) rfl) rfl (lt_b rfl) ?_
  refine GoT.q rfl (QEx.fldP 0 rfl Try.underlying24 rfl ts3 rfl (.tmp rfl) rfl) rfl (lt_b rfl) ?_
  refine GoT.qr rfl rfl (QEx.ldP1 (Vec.cells x4) (iAV x4.X) rfl ag3 (.tmp rfl) rfl) rfl (lt_b rfl) ?_
  refine GoT.q rfl (QEx.subK rfl (.tmp rfl) (.tmp rfl)) rfl (lt_b rfl) ?_
  refine GoT.q rfl (QEx.fldP 1 rfl Try.underlying24 rfl ts3 rfl (.tmp rfl) rfl) rfl (lt_b rfl) ?_
  refine GoT.qr rfl rfl (QEx.ldP1 (Vec.cells x6) (iAV x6.Y) rfl ag3 (.tmp rfl) rfl) rfl (lt_b rfl) ?_
  refine GoT.q rfl (QEx.fldP 1 rfl Try.underlying24 rfl ts3 rfl (.tmp rfl) rfl) rfl (lt_b rfl) ?_
  refine GoT.qr rfl rfl (QEx.ldP1 (Vec.cells x4) (iAV x4.Y) rfl ag3 (.tmp rfl) rfl) rfl (lt_b rfl) ?_
  refine GoT.q rfl (QEx.subK rfl (.tmp rfl) (.tmp rfl)) rfl (lt_b rfl) ?_
  refine GoT.q rfl (QEx.mulK rfl (.tmp rfl) (.tmp rfl)) rfl (lt_b rfl) ?_
  refine GoT.q rfl (QEx.fldP 1 rfl Try.underlying24 rfl ts3 rfl (.tmp rfl) rfl) rfl (lt_b rfl) ?_
  refine GoT.qr rfl rfl (QEx.ldP1 (Vec.cells x5) (iAV x5.Y) rfl ag3 (.tmp rfl) rfl) rfl (lt_b rfl) ?_
  refine GoT.q rfl (QEx.fldP 1 rfl Try.underlying24 rfl ts3 rfl (.tmp rfl) rfl) rfl (lt_b rfl) ?_
  refine GoT.qr rfl rfl (QEx.ldP1 (Vec.cells x4) (iAV x4.Y) rfl ag3 (.tmp rfl) rfl) rfl (lt_b rfl) ?_
  refine GoT.q rfl (QEx.subK rfl (.tmp rfl) (.tmp rfl)) rfl (lt_b rfl) ?_
  refine GoT.q rfl (QEx.fldP 0 rfl Try.underlying24 rfl ts3 rfl (.tmp rfl) rfl) rfl (lt_b rfl) ?_
  refine GoT.qr rfl rfl (QEx.ldP1 (Vec.cells x6) (iAV x6.X) rfl ag3 (.tmp rfl) rfl) rfl (lt_b rfl) ?_
  refine GoT.q rfl (QEx.fldP 0 rfl Try.underlying24 rfl ts3 rfl (.tmp rfl) rfl) rfl (lt_b rfl) ?_
  refine GoT.qr rfl rfl (QEx.ldP1 (Vec.cells x4) (iAV x4.X) rfl ag3 (.tmp rfl) rfl) rfl (lt_b rfl) ?_
  refine GoT.q rfl (QEx.subK rfl (.tmp rfl) (.tmp rfl)) rfl (lt_b rfl) ?_
  refine GoT.q rfl (QEx.mulK rfl (.tmp rfl) (.tmp rfl)) rfl (lt_b rfl) ?_
  refine GoT.q rfl (QEx.eq (QEx.subK rfl (.tmp rfl) (.tmp rfl)) (congrArg iAV hx7)) rfl (lt_b rfl) ?_
  refine GoT.q rfl (QEx.assign rfl (.tmp rfl)) rfl (lt_b rfl) ?_
  refine GoT.nil ?_
  refine let_e h fun x8 hx8 h => ?_
  refine Wp.seq ?_
  refine Wp.region ?_
  refine GoT.q rfl (QEx.move rfl (.tmp rfl)) rfl (lt_b rfl) ?_
  refine GoT.q rfl (QEx.maxK rfl .con (.tmp rfl)) rfl (lt_b rfl) ?_
  refine GoT.q rfl (QEx.minK rfl .con (.tmp rfl)) rfl (lt_b rfl) ?_
  refine GoT.q rfl (QEx.eq (QEx.assign rfl (.tmp rfl)) (congrArg iAV hx8)) rfl (lt_b rfl) ?_
  refine GoT.nil ?_
  refine Wp.ret ?_
  cases h
  exact LeafQ.ret [] (by decide) (.cons (.tmp rfl) .nil) rfl
theorem polygon_IsConvex_ok {vertices : List Vec} {r : Bool} (h : polygon_IsConvex vertices = some r) : FnR Try.prog 82 [((slAV 2 Vec.av) vertices)] (boolAV r) := by
  refine FnR.intro' (fn := Try.f82) (N := 60) Try.func82 rfl rfl (Nat.le_of_ble_eq_true rfl) [5, 8, 9, 18, 22, 33, 50] ?_
  refine Wp.seq ?_
  refine Wp.region ?_
  refine GoT.q rfl (QEx.as (boolAV false) (QEx.assign rfl .con)) rfl (lt_b rfl) ?_
  refine GoT.nil ?_
  refine Wp.seq ?_
  refine Wp.region ?_
  refine GoT.q rfl (QEx.move rfl (.tmp rfl)) rfl (lt_b rfl) ?_
  refine GoT.q rfl (QEx.lenL rfl ⟨_, Try.underlying35⟩ (.tmp rfl)) rfl (lt_b rfl) ?_
  refine GoT.q rfl (QEx.assign rfl (.tmp rfl)) rfl (lt_b rfl) ?_
  refine GoT.nil ?_
  refine Wp.seq ?_
  refine bind_e h fun r1 hr1 h => ?_
  refine Wp.seq ?_
  refine Wp.region ?_
  refine GoT.q rfl (QEx.move rfl (.tmp rfl)) rfl (lt_b rfl) ?_
  refine GoT.q rfl (QEx.lssK rfl (.tmp rfl) .con) rfl (lt_b rfl) ?_
  refine GoT.q rfl (QEx.move rfl (.tmp rfl)) rfl (lt_b rfl) ?_
  refine GoT.g rfl rfl rfl (fun hg => QEx.move rfl (.tmp rfl)) rfl (lt_b rfl) ?_
  refine GoT.g rfl rfl rfl (fun hg => QEx.gtrK rfl (.opt (.tmp rfl) hg) .con) rfl (lt_b rfl) ?_
  refine GoT.q rfl (QEx.pickK rfl (.tmp rfl) (fun hp => .con) (fun hp => (.opt (.tmp rfl) (beq_f hp)))) rfl (lt_b rfl) ?_
  refine GoT.q rfl (QEx.move rfl (.tmp rfl)) rfl (lt_b rfl) ?_
  refine GoT.g rfl rfl rfl (fun hg => QEx.move rfl (.tmp rfl)) rfl (lt_b rfl) ?_
  refine GoT.g rfl rfl rfl (fun hg => QEx.cal0 (r := (boolAV r1)) [((slAV 2 Vec.av) vertices)] rfl Try.call96 (.cons (.opt (.tmp rfl) hg) .nil) (polygon_allInReach_ok (gcall hr1 hg)) rfl rfl) rfl (lt_b rfl) ?_
  refine GoT.g rfl rfl rfl (fun hg => QEx.notK rfl (.opt (.tmp rfl) hg)) rfl (lt_b rfl) ?_
  refine GoT.q rfl (QEx.pickK rfl (.tmp rfl) (fun hp => .con) (fun hp => (.opt (.tmp rfl) (beq_f hp)))) rfl (lt_b rfl) ?_
  refine GoT.nil ?_
  refine Wp.condS h rfl (fun h => ?_) (fun h => ?_)
  · refine Wp.seq ?_
    refine Wp.region ?_
    refine GoT.q rfl (QEx.as (boolAV false) (QEx.assign rfl .con)) rfl (lt_b rfl) ?_
    refine GoT.nil ?_
    refine Wp.ret ?_
    cases h
    exact LeafQ.ret [] (by decide) (.cons (.tmp rfl) .nil) rfl
  · refine Wp.skip ?_
    refine Wp.join0 (⟨[], [], [5, 8, 9, 18, 22, 33, 50]⟩) (polygon_IsConvex_j4 = some r) ?_ ?_
    · intro h
      refine Wp.seq ?_
      refine Wp.region ?_
      refine GoT.q rfl (QEx.as (boolAV true) (QEx.assign rfl .con)) rfl (lt_b rfl) ?_
      refine GoT.nil ?_
      refine Wp.ret ?_
      cases h
      exact LeafQ.ret [] (by decide) (.cons (.tmp rfl) .nil) rfl
    · refine Wp.seq ?_
      refine Wp.region ?_
      refine GoT.q rfl (QEx.move rfl (.tmp rfl)) rfl (lt_b rfl) ?_
      refine GoT.q rfl (QEx.lenL rfl ⟨_, Try.underlying35⟩ (.tmp rfl)) rfl (lt_b rfl) ?_
      refine GoT.q rfl (QEx.as (iAV 0) (QEx.move rfl .con)) rfl (lt_b rfl) ?_
      refine GoT.nil ?_
      refine Wp.block ?_
      refine Wp.loop1 (fun v2 => ⟨[(0, ((slAV 2 Vec.av) vertices)), (3, (iAV ((vertices).length : Int))), (22, ((slAV 2 Vec.av) vertices)), (23, (iAV ((vertices).length : Int))), (24, (iAV v2))], [], [5, 8, 9, 18, 22, 33, 50]⟩) (fun n v2 => polygon_IsConvex_l3 vertices polygon_IsConvex_j4 n v2 = some r) fuel 0 [] [] h (LS.to.mk (.b rfl rfl (.b rfl rfl (.b rfl rfl (.b rfl rfl (.b rfl rfl .n))))) .n rfl) ?_
      rintro (_ | n2) v2 h
      · exact none_e h
      rw [polygon_IsConvex_l3] at h
      refine Wp.seq ?_
      refine Wp.region ?_
      refine GoT.q rfl (QEx.lssK rfl (.tmp rfl) (.tmp rfl)) rfl (lt_b rfl) ?_
      refine GoT.nil ?_
      refine Wp.seq ?_
      refine Wp.condS h rfl (fun h => ?_) (fun h => ?_)
      · refine Wp.skip ?_
        refine Wp.join0 (⟨[(0, ((slAV 2 Vec.av) vertices)), (3, (iAV ((vertices).length : Int))), (22, ((slAV 2 Vec.av) vertices)), (23, (iAV ((vertices).length : Int))), (24, (iAV v2))], [], [5, 8, 9, 18, 22, 33, 50]⟩) ((polygon_IsConvex_j2 v2 (polygon_IsConvex_l3 vertices polygon_IsConvex_j4 n2)) = some r) ?_ ?_
        · intro h
          refine let_e h fun x13 hx13 h => ?_
          refine Wp.region ?_
          refine GoT.q rfl (QEx.addK rfl (.tmp rfl) .con) rfl (lt_b rfl) ?_
          refine GoT.q rfl (QEx.eq (QEx.move rfl (.tmp rfl)) (congrArg iAV hx13)) rfl (lt_b rfl) ?_
          refine GoT.nil ?_
          exact Round1.mk x13 [] [] h (LS.to.mk (.b rfl rfl (.b rfl rfl (.b rfl rfl (.b rfl rfl (.b rfl rfl .n))))) .n rfl)
        · refine Wp.block ?_
          refine chk_e h fun c3 h => ?_
          refine let_e h fun x4 hx4 h => ?_
          refine Wp.seq ?_
          refine Wp.region ?_
          refine GoT.q rfl (QEx.move rfl (.tmp rfl)) rfl (lt_b rfl) ?_
          refine GoT.q rfl (QEx.as (.cptr (Vec.cells (ix vertices v2))) (QEx.idxL (E := Vec.av) rfl et35 (.tmp rfl) (.tmp rfl) c3)) rfl (lt_b rfl) ?_
          refine GoT.q rfl (QEx.ldC (x := (Vec.av (ix vertices v2))) rfl ag24 ts24 (.tmp rfl) (.inl ⟨rfl, rfl, rfl⟩)) rfl (lt_b rfl) ?_
          refine GoT.a rfl (AEx.alZ rfl zt24 rfl rfl) rfl (lt_b rfl) ?_
          refine GoT.q rfl (QEx.assign rfl (.tmp rfl)) rfl (lt_b rfl) ?_
          refine GoT.s rfl (AEx.sto (Z := (Vec.cells x4)) rfl rfl ts24 (.tmp rfl) rfl (.tmp rfl) rfl rfl (le_b rfl) (congrArg (fun (x : Vec) => (Vec.cells x)) hx4)) rfl ?_
          refine GoT.nil ?_
          refine chk_e h fun c5 h => ?_
          refine let_e h fun x6 hx6 h => ?_
          refine Wp.seq ?_
          refine Wp.region ?_
          refine GoT.q rfl (QEx.move rfl (.tmp rfl)) rfl (lt_b rfl) ?_
          refine GoT.q rfl (QEx.addK rfl (.tmp rfl) .con) rfl (lt_b rfl) ?_
          refine GoT.q rfl (QEx.move rfl (.tmp rfl)) rfl (lt_b rfl) ?_
          refine GoT.q rfl (QEx.remK rfl (.tmp rfl) (.tmp rfl) c5) rfl (lt_b rfl) ?_
          refine GoT.q rfl (QEx.eq (QEx.assign rfl (.tmp rfl)) (congrArg iAV hx6)) rfl (lt_b rfl) ?_
          refine GoT.nil ?_
          refine Wp.seq ?_
          refine Wp.region ?_
          refine GoT.q rfl (QEx.move rfl (.tmp rfl)) rfl (lt_b rfl) ?_
          refine GoT.q rfl (QEx.lenL rfl ⟨_, Try.underlying35⟩ (.tmp rfl)) rfl (lt_b rfl) ?_
          refine GoT.q rfl (QEx.as (iAV 0) (QEx.move rfl .con)) rfl (lt_b rfl) ?_
          refine GoT.nil ?_
          refine Wp.block ?_
          refine Wp.loop1 (fun v7 => ⟨[(0, ((slAV 2 Vec.av) vertices)), (3, (iAV ((vertices).length : Int))), (4, (iAV v2)), (5, (.ptr 5 0)), (6, (iAV x6)), (22, ((slAV 2 Vec.av) vertices)), (23, (iAV ((vertices).length : Int))), (24, (iAV v2)), (33, ((slAV 2 Vec.av) vertices)), (34, (iAV ((vertices).length : Int))), (35, (iAV v7))], [(5, .cells (Vec.cells x4))], [8, 9, 18, 22, 33, 50]⟩) (fun n v7 => polygon_IsConvex_l1 vertices v2 (polygon_IsConvex_j2 v2 (polygon_IsConvex_l3 vertices polygon_IsConvex_j4 n2)) x4 x6 n v7 = some r) fuel 0 [] [] h (LS.to.mk (.b rfl rfl (.b rfl rfl (.b rfl rfl (.r rfl rfl (.b rfl rfl (.b rfl rfl (.b rfl rfl (.b rfl rfl (.b rfl rfl (.b rfl rfl (.b rfl rfl .n))))))))))) (.b rfl rfl rfl .n) rfl) ?_
          rintro (_ | n4) v7 h
          · exact none_e h
          rw [polygon_IsConvex_l1] at h
          refine Wp.seq ?_
          refine Wp.region ?_
          refine GoT.q rfl (QEx.lssK rfl (.tmp rfl) (.tmp rfl)) rfl (lt_b rfl) ?_
          refine GoT.nil ?_
          refine Wp.seq ?_
          refine Wp.condS h rfl (fun h => ?_) (fun h => ?_)
          · refine Wp.skip ?_
            refine Wp.seq ?_
            refine Wp.block ?_
            refine chk_e h fun c8 h => ?_
            refine let_e h fun x9 hx9 h => ?_
            refine Wp.seq ?_
            refine Wp.region ?_
            refine GoT.q rfl (QEx.move rfl (.tmp rfl)) rfl (lt_b rfl) ?_
            refine GoT.q rfl (QEx.as (.cptr (Vec.cells (ix vertices v7))) (QEx.idxL (E := Vec.av) rfl et35 (.tmp rfl) (.tmp rfl) c8)) rfl (lt_b rfl) ?_
            refine GoT.q rfl (QEx.ldC (x := (Vec.av (ix vertices v7))) rfl ag24 ts24 (.tmp rfl) (.inl ⟨rfl, rfl, rfl⟩)) rfl (lt_b rfl) ?_
            refine GoT.a rfl (AEx.alZ rfl zt24 rfl rfl) rfl (lt_b rfl) ?_
            refine GoT.q rfl (QEx.assign rfl (.tmp rfl)) rfl (lt_b rfl) ?_
            refine GoT.s rfl (AEx.sto (Z := (Vec.cells x9)) rfl rfl ts24 (.tmp rfl) rfl (.tmp rfl) rfl rfl (le_b rfl) (congrArg (fun (x : Vec) => (Vec.cells x)) hx9)) rfl ?_
            refine GoT.nil ?_
            refine chk_e h fun c10 h => ?_
            refine let_e h fun r11 hr11 h => ?_
            refine Wp.seq ?_
            refine Wp.drawn2 (n0 := 18) [9, 18, 22, 33, 50] mixed ?_
            refine GoD.q rfl (QEx.move rfl (.tmp rfl)) rfl (lt_b rfl) ?_
            refine GoD.q rfl (QEx.move rfl (.tmp rfl)) rfl (lt_b rfl) ?_
            refine GoD.q rfl (QEx.neqK rfl (.tmp rfl) (.tmp rfl)) rfl (lt_b rfl) ?_
            refine GoD.q rfl (QEx.move rfl (.tmp rfl)) rfl (lt_b rfl) ?_
            refine GoD.g rfl rfl rfl (fun hg => QEx.move rfl (.tmp rfl)) rfl (lt_b rfl) ?_
            refine GoD.g rfl rfl rfl (fun hg => QEx.move rfl (.tmp rfl)) rfl (lt_b rfl) ?_
            refine GoD.g rfl rfl rfl (fun hg => QEx.neqK rfl (.opt (.tmp rfl) hg) (.opt (.tmp rfl) hg)) rfl (lt_b rfl) ?_
            refine GoD.q rfl (QEx.pickK rfl (.tmp rfl) (fun hp => (.opt (.tmp rfl) (beq_t hp))) (fun hp => .con)) rfl (lt_b rfl) ?_
            refine GoD.q rfl (QEx.move rfl (.tmp rfl)) rfl (lt_b rfl) ?_
            refine GoD.gr rfl rfl rfl rfl (fun hg => QEx.ldP (Vec.cells x4) (Vec.av x4) rfl ag24 ts24 (.tmp rfl) (le_b rfl) rfl) rfl (lt_b rfl) ?_
            refine GoD.g rfl rfl rfl (fun hg => QEx.move rfl (.tmp rfl)) rfl (lt_b rfl) ?_
            refine GoD.g rfl rfl rfl (fun hg => QEx.move rfl (.tmp rfl)) rfl (lt_b rfl) ?_
            refine GoD.g rfl rfl rfl (fun hg => QEx.as (.cptr (Vec.cells (ix vertices x6))) (QEx.idxL (E := Vec.av) rfl et35 (.opt (.tmp rfl) hg) (.opt (.tmp rfl) hg) (c10 hg))) rfl (lt_b rfl) ?_
            refine GoD.g rfl rfl rfl (fun hg => QEx.ldC (x := (Vec.av (ix vertices x6))) rfl ag24 ts24 (.opt (.tmp rfl) hg) (.inl ⟨rfl, rfl, rfl⟩)) rfl (lt_b rfl) ?_
            refine GoD.gr rfl rfl rfl rfl (fun hg => QEx.ldP (Vec.cells x9) (Vec.av x9) rfl ag24 ts24 (.tmp rfl) (le_b rfl) rfl) rfl (lt_b rfl) ?_
            refine GoD.g rfl rfl rfl (fun hg => QEx.cal0 (r := (iAV r11)) [(Vec.av x4), (Vec.av (ix vertices x6)), (Vec.av x9)] rfl Try.call44 (.cons (.opt (.tmp rfl) hg) (.cons (.opt (.tmp rfl) hg) (.cons (.opt (.tmp rfl) hg) .nil))) (vec2_Orientation_ok hr11) rfl rfl) rfl (lt_b rfl) ?_
            refine GoD.g rfl rfl rfl (fun hg => QEx.neqK rfl (.opt (.tmp rfl) hg) .con) rfl (lt_b rfl) ?_
            refine GoD.q rfl (QEx.pickK rfl (.tmp rfl) (fun hp => (.opt (.tmp rfl) (beq_t hp))) (fun hp => .con)) rfl (lt_b rfl) ?_
            refine GoD.nil ⟨by kernel_rfl, by kernel_rfl, by kernel_rfl, by kernel_rfl, by kernel_rfl, ?_⟩
            refine GoT.nil ?_
            refine Wp.condS h rfl (fun h => ?_) (fun h => ?_)
            · refine Wp.seq ?_
              refine Wp.region ?_
              refine GoT.q rfl (QEx.as (boolAV false) (QEx.assign rfl .con)) rfl (lt_b rfl) ?_
              refine GoT.nil ?_
              refine Wp.ret ?_
              cases h
              exact LeafQ.ret [] (by decide) (.cons (.tmp rfl) .nil) rfl
            · refine Wp.skip ?_
              refine let_e h fun x12 hx12 h => ?_
              refine Wp.region ?_
              refine GoT.q rfl (QEx.addK rfl (.tmp rfl) .con) rfl (lt_b rfl) ?_
              refine GoT.q rfl (QEx.eq (QEx.move rfl (.tmp rfl)) (congrArg iAV hx12)) rfl (lt_b rfl) ?_
              refine GoT.nil ?_
              exact Round1.mk x12 [8] [] h (LS.to.mk (.b rfl rfl (.b rfl rfl (.b rfl rfl (.r rfl rfl (.b rfl rfl (.b rfl rfl (.b rfl rfl (.b rfl rfl (.b rfl rfl (.b rfl rfl (.b rfl rfl .n))))))))))) (.b rfl rfl rfl .n) rfl)
          · refine Wp.exit ?_
            exact Joined0.mk [5] [] h (LS.to.mk (.b rfl rfl (.b rfl rfl (.b rfl rfl (.b rfl rfl (.b rfl rfl .n))))) .n rfl)
      · refine Wp.exit ?_
        exact Joined0.mk [] [] h (LS.to.mk .n .n rfl)
theorem polygon_ShortestEdge_ok {vertices : List Vec} {r : Int} (h : polygon_ShortestEdge vertices = some r) : FnR Try.prog 83 [((slAV 2 Vec.av) vertices)] (iAV r) := by
  refine FnR.intro' (fn := Try.f83) (N := 31) Try.func83 rfl rfl (Nat.le_of_ble_eq_true rfl) [5, 6, 9, 17, 20] ?_
  refine Wp.seq ?_
  refine Wp.region ?_
  refine GoT.q rfl (QEx.as (iAV 0) (QEx.assign rfl .con)) rfl (lt_b rfl) ?_
  refine GoT.nil ?_
  refine Wp.seq ?_
  refine bind_e h fun r1 hr1 h => ?_
  refine Wp.seq ?_
  refine Wp.region ?_
  refine GoT.q rfl (QEx.move rfl (.tmp rfl)) rfl (lt_b rfl) ?_
  refine GoT.q rfl (QEx.cal0 (r := (boolAV r1)) [((slAV 2 Vec.av) vertices)] rfl Try.call82 (.cons (.tmp rfl) .nil) (polygon_IsConvex_ok hr1) rfl rfl) rfl (lt_b rfl) ?_
  refine GoT.q rfl (QEx.notK rfl (.tmp rfl)) rfl (lt_b rfl) ?_
  refine GoT.nil ?_
  refine Wp.condS h rfl (fun h => ?_) (fun h => ?_)
  · refine Wp.seq ?_
    refine Wp.region ?_
    refine GoT.q rfl (QEx.as (iAV 0) (QEx.assign rfl .con)) rfl (lt_b rfl) ?_
    refine GoT.nil ?_
    refine Wp.ret ?_
    cases h
    exact LeafQ.ret [] (by decide) (.cons (.tmp rfl) .nil) rfl
  · refine Wp.skip ?_
    refine Wp.seq ?_
    refine Wp.region ?_
    refine GoT.q rfl (QEx.as (iAV 536870911) (QEx.assign rfl .con)) rfl (lt_b rfl) ?_
    refine GoT.nil ?_
    refine Wp.join1 (fun v2 => ⟨[(3, (iAV v2))], [], [5, 6, 9, 17, 20]⟩) (fun v2 => polygon_ShortestEdge_j2 v2 = some r) ?_ ?_
    · intro v2 h
      refine Wp.seq ?_
      refine Wp.region ?_
      refine GoT.q rfl (QEx.move rfl (.tmp rfl)) rfl (lt_b rfl) ?_
      refine GoT.q rfl (QEx.assign rfl (.tmp rfl)) rfl (lt_b rfl) ?_
      refine GoT.nil ?_
      refine Wp.ret ?_
      cases h
      exact LeafQ.ret [] (by decide) (.cons (.tmp rfl) .nil) rfl
    · refine Wp.seq ?_
      refine Wp.region ?_
      refine GoT.q rfl (QEx.move rfl (.tmp rfl)) rfl (lt_b rfl) ?_
      refine GoT.q rfl (QEx.lenL rfl ⟨_, Try.underlying35⟩ (.tmp rfl)) rfl (lt_b rfl) ?_
      refine GoT.q rfl (QEx.as (iAV 0) (QEx.move rfl .con)) rfl (lt_b rfl) ?_
      refine GoT.nil ?_
      refine Wp.block ?_
      refine Wp.loop2 (fun v3 v4 => ⟨[(0, ((slAV 2 Vec.av) vertices)), (3, (iAV v3)), (9, ((slAV 2 Vec.av) vertices)), (10, (iAV ((vertices).length : Int))), (11, (iAV v4))], [], [5, 6, 9, 17, 20]⟩) (fun n v3 v4 => polygon_ShortestEdge_l1 vertices polygon_ShortestEdge_j2 n v3 v4 = some r) fuel 536870911 0 [] [] h (LS.to.mk (.b rfl rfl (.b rfl rfl (.b rfl rfl (.b rfl rfl (.b rfl rfl .n))))) .n rfl) ?_
      rintro (_ | n2) v3 v4 h
      · exact none_e h
      rw [polygon_ShortestEdge_l1] at h
      refine Wp.seq ?_
      refine Wp.region ?_
      refine GoT.q rfl (QEx.lssK rfl (.tmp rfl) (.tmp rfl)) rfl (lt_b rfl) ?_
      refine GoT.nil ?_
      refine Wp.seq ?_
      refine Wp.condS h rfl (fun h => ?_) (fun h => ?_)
      · refine Wp.skip ?_
        refine Wp.seq ?_
        refine Wp.block ?_
        refine chk_e h fun c5 h => ?_
        refine let_e h fun x6 hx6 h => ?_
        refine Wp.seq ?_
        refine Wp.region ?_
        refine GoT.q rfl (QEx.move rfl (.tmp rfl)) rfl (lt_b rfl) ?_
        refine GoT.q rfl (QEx.as (.cptr (Vec.cells (ix vertices v4))) (QEx.idxL (E := Vec.av) rfl et35 (.tmp rfl) (.tmp rfl) c5)) rfl (lt_b rfl) ?_
        refine GoT.q rfl (QEx.ldC (x := (Vec.av (ix vertices v4))) rfl ag24 ts24 (.tmp rfl) (.inl ⟨rfl, rfl, rfl⟩)) rfl (lt_b rfl) ?_
        refine GoT.a rfl (AEx.alZ rfl zt24 rfl rfl) rfl (lt_b rfl) ?_
        refine GoT.q rfl (QEx.assign rfl (.tmp rfl)) rfl (lt_b rfl) ?_
        refine GoT.s rfl (AEx.sto (Z := (Vec.cells x6)) rfl rfl ts24 (.tmp rfl) rfl (.tmp rfl) rfl rfl (le_b rfl) (congrArg (fun (x : Vec) => (Vec.cells x)) hx6)) rfl ?_
        refine GoT.nil ?_
        refine chk_e h fun c7 h => ?_
        refine chk_e h fun c8 h => ?_
        refine let_e h fun r9 hr9 h => ?_
        refine bind_e h fun r10 hr10 h => ?_
        refine let_e h fun x11 hx11 h => ?_
        refine Wp.drawn2 (n0 := 14) [6, 9, 17, 20] mixed ?_
        refine GoD.q rfl (QEx.move rfl (.tmp rfl)) rfl (lt_b rfl) ?_
        refine GoD.q rfl (QEx.move rfl (.tmp rfl)) rfl (lt_b rfl) ?_
        refine GoD.q rfl (QEx.move rfl (.tmp rfl)) rfl (lt_b rfl) ?_
        refine GoD.q rfl (QEx.addK rfl (.tmp rfl) .con) rfl (lt_b rfl) ?_
        refine GoD.q rfl (QEx.move rfl (.tmp rfl)) rfl (lt_b rfl) ?_
        refine GoD.q rfl (QEx.lenL rfl ⟨_, Try.underlying35⟩ (.tmp rfl)) rfl (lt_b rfl) ?_
        refine GoD.q rfl (QEx.remK rfl (.tmp rfl) (.tmp rfl) c7) rfl (lt_b rfl) ?_
        refine GoD.q rfl (QEx.as (.cptr (Vec.cells (ix vertices (Int.tmod (w64 (v4 + 1)) ((vertices).length : Int))))) (QEx.idxL (E := Vec.av) rfl et35 (.tmp rfl) (.tmp rfl) c8)) rfl (lt_b rfl) ?_
        refine GoD.q rfl (QEx.ldC (x := (Vec.av (ix vertices (Int.tmod (w64 (v4 + 1)) ((vertices).length : Int))))) rfl ag24 ts24 (.tmp rfl) (.inl ⟨rfl, rfl, rfl⟩)) rfl (lt_b rfl) ?_
        refine GoD.qr rfl rfl (QEx.ldP (Vec.cells x6) (Vec.av x6) rfl ag24 ts24 (.tmp rfl) (le_b rfl) rfl) rfl (lt_b rfl) ?_
        refine GoD.q rfl (QEx.cal0 (r := (Vec.av r9)) [(Vec.av (ix vertices (Int.tmod (w64 (v4 + 1)) ((vertices).length : Int)))), (Vec.av x6)] rfl Try.call28 (.cons (.tmp rfl) (.cons (.tmp rfl) .nil)) (vec2_Sub_ok hr9) rfl rfl) rfl (lt_b rfl) ?_
        refine GoD.q rfl (QEx.cal0 (r := (iAV r10)) [(Vec.av r9)] rfl Try.call42 (.cons (.tmp rfl) .nil) (vec2_Length_ok hr10) rfl rfl) rfl (lt_b rfl) ?_
        refine GoD.q rfl (QEx.minK rfl (.tmp rfl) (.tmp rfl)) rfl (lt_b rfl) ?_
        refine GoD.q rfl (QEx.eq (QEx.assign rfl (.tmp rfl)) (congrArg iAV hx11)) rfl (lt_b rfl) ?_
        refine GoD.nil ⟨by kernel_rfl, by kernel_rfl, by kernel_rfl, by kernel_rfl, by kernel_rfl, ?_⟩
        refine GoT.nil ?_
        refine let_e h fun x12 hx12 h => ?_
        refine Wp.region ?_
        refine GoT.q rfl (QEx.addK rfl (.tmp rfl) .con) rfl (lt_b rfl) ?_
        refine GoT.q rfl (QEx.eq (QEx.move rfl (.tmp rfl)) (congrArg iAV hx12)) rfl (lt_b rfl) ?_
        refine GoT.nil ?_
        exact Round2.mk x11 x12 [5] [] h (LS.to.mk (.b rfl rfl (.b rfl rfl (.b rfl rfl (.b rfl rfl (.b rfl rfl .n))))) .n rfl)
      · refine Wp.exit ?_
        exact Joined1.mk v3 [] [] h (LS.to.mk (.b rfl rfl .n) .n rfl)
theorem fixed_RoundDiv_ok {n_0 : Int} {d : Int} {r : Int} (h : fixed_RoundDiv n_0 d = some r) : FnR Try.prog 55 [(iAV n_0), (iAV d)] (iAV r) := by
  refine FnR.intro' (fn := Try.f55) (N := 45) Try.func55 rfl rfl (Nat.le_of_ble_eq_true rfl) [] ?_
  refine Wp.seq ?_
  refine Wp.region ?_
  refine GoT.q rfl (QEx.as (iAV 0) (QEx.assign rfl .con)) rfl (lt_b rfl) ?_
  refine GoT.nil ?_
  refine Wp.seq ?_
  refine Wp.seq ?_
  refine Wp.region ?_
  refine GoT.q rfl (QEx.move rfl (.tmp rfl)) rfl (lt_b rfl) ?_
  refine GoT.q rfl (QEx.lssK rfl (.tmp rfl) .con) rfl (lt_b rfl) ?_
  refine GoT.q rfl (QEx.move rfl (.tmp rfl)) rfl (lt_b rfl) ?_
  refine GoT.g rfl rfl rfl (fun hg => QEx.move rfl (.tmp rfl)) rfl (lt_b rfl) ?_
  refine GoT.g rfl rfl rfl (fun hg => QEx.gtrK rfl (.opt (.tmp rfl) hg) .con) rfl (lt_b rfl) ?_
  refine GoT.q rfl (QEx.pickK rfl (.tmp rfl) (fun hp => .con) (fun hp => (.opt (.tmp rfl) (beq_f hp)))) rfl (lt_b rfl) ?_
  refine GoT.q rfl (QEx.move rfl (.tmp rfl)) rfl (lt_b rfl) ?_
  refine GoT.g rfl rfl rfl (fun hg => QEx.move rfl (.tmp rfl)) rfl (lt_b rfl) ?_
  refine GoT.g rfl rfl rfl (fun hg => QEx.lssK rfl (.opt (.tmp rfl) hg) .con) rfl (lt_b rfl) ?_
  refine GoT.q rfl (QEx.pickK rfl (.tmp rfl) (fun hp => .con) (fun hp => (.opt (.tmp rfl) (beq_f hp)))) rfl (lt_b rfl) ?_
  refine GoT.q rfl (QEx.move rfl (.tmp rfl)) rfl (lt_b rfl) ?_
  refine GoT.g rfl rfl rfl (fun hg => QEx.move rfl (.tmp rfl)) rfl (lt_b rfl) ?_
  refine GoT.g rfl rfl rfl (fun hg => QEx.gtrK rfl (.opt (.tmp rfl) hg) .con) rfl (lt_b rfl) ?_
  refine GoT.q rfl (QEx.pickK rfl (.tmp rfl) (fun hp => .con) (fun hp => (.opt (.tmp rfl) (beq_f hp)))) rfl (lt_b rfl) ?_
  refine GoT.nil ?_
  refine Wp.condS h rfl (fun h => ?_) (fun h => ?_)
  · refine Wp.seq ?_
    refine Wp.region ?_
    refine GoT.q rfl (QEx.as (iAV 0) (QEx.assign rfl .con)) rfl (lt_b rfl) ?_
    refine GoT.nil ?_
    refine Wp.ret ?_
    cases h
    exact LeafQ.ret [] (by decide) (.cons (.tmp rfl) .nil) rfl
  · refine Wp.skip ?_
    refine chk_e h fun c1 h => ?_
    refine chk_e h fun c2 h => ?_
    refine let_e h fun x3 hx3 h => ?_
    refine let_e h fun x4 hx4 h => ?_
    refine Wp.seq ?_
    refine Wp.drawn2 (n0 := 8) [] mixed ?_
    refine GoD.q rfl (QEx.move rfl (.tmp rfl)) rfl (lt_b rfl) ?_
    refine GoD.q rfl (QEx.move rfl (.tmp rfl)) rfl (lt_b rfl) ?_
    refine GoD.q rfl (QEx.quoK rfl (.tmp rfl) (.tmp rfl) c1) rfl (lt_b rfl) ?_
    refine GoD.q rfl (QEx.move rfl (.tmp rfl)) rfl (lt_b rfl) ?_
    refine GoD.q rfl (QEx.move rfl (.tmp rfl)) rfl (lt_b rfl) ?_
    refine GoD.q rfl (QEx.remK rfl (.tmp rfl) (.tmp rfl) c2) rfl (lt_b rfl) ?_
    refine GoD.q rfl (QEx.eq (QEx.assign rfl (.tmp rfl)) (congrArg iAV hx3)) rfl (lt_b rfl) ?_
    refine GoD.q rfl (QEx.eq (QEx.assign rfl (.tmp rfl)) (congrArg iAV hx4)) rfl (lt_b rfl) ?_
    refine GoD.nil ⟨by kernel_rfl, by kernel_rfl, by kernel_rfl, by kernel_rfl, by kernel_rfl, ?_⟩
    refine GoT.nil ?_
    refine Wp.seq ?_
    refine Wp.block ?_
    refine let_e h fun x5 hx5 h => ?_
    refine Wp.seq ?_
    refine Wp.region ?_
    refine GoT.q rfl (QEx.move rfl (.tmp rfl)) rfl (lt_b rfl) ?_
    refine GoT.q rfl (QEx.move rfl (.tmp rfl)) rfl (lt_b rfl) ?_
    refine GoT.q rfl (QEx.move rfl (.tmp rfl)) rfl (lt_b rfl) ?_
    refine GoT.q rfl (QEx.subK rfl (.tmp rfl) (.tmp rfl)) rfl (lt_b rfl) ?_
    refine GoT.q rfl (QEx.geqK rfl (.tmp rfl) (.tmp rfl)) rfl (lt_b rfl) ?_
    refine GoT.q rfl (QEx.eq (QEx.assign rfl (.tmp rfl)) (congrArg boolAV hx5)) rfl (lt_b rfl) ?_
    refine GoT.nil ?_
    refine Wp.condS h rfl (fun h => ?_) (fun h => ?_)
    · refine let_e h fun x6 hx6 h => ?_
      refine Wp.region ?_
      refine GoT.q rfl (QEx.move rfl (.tmp rfl)) rfl (lt_b rfl) ?_
      refine GoT.q rfl (QEx.addK rfl (.tmp rfl) .con) rfl (lt_b rfl) ?_
      refine GoT.q rfl (QEx.eq (QEx.assign rfl (.tmp rfl)) (congrArg iAV hx6)) rfl (lt_b rfl) ?_
      refine GoT.nil ?_
      refine Wp.seq ?_
      refine Wp.region ?_
      refine GoT.q rfl (QEx.move rfl (.tmp rfl)) rfl (lt_b rfl) ?_
      refine GoT.q rfl (QEx.assign rfl (.tmp rfl)) rfl (lt_b rfl) ?_
      refine GoT.nil ?_
      refine Wp.ret ?_
      cases h
      exact LeafQ.ret [] (by decide) (.cons (.tmp rfl) .nil) rfl
    · refine let_e h fun x7 hx7 h => ?_
      refine Wp.seq ?_
      refine Wp.region ?_
      refine GoT.q rfl (QEx.move rfl (.tmp rfl)) rfl (lt_b rfl) ?_
      refine GoT.q rfl (QEx.negK rfl (.tmp rfl)) rfl (lt_b rfl) ?_
      refine GoT.q rfl (QEx.move rfl (.tmp rfl)) rfl (lt_b rfl) ?_
      refine GoT.q rfl (QEx.move rfl (.tmp rfl)) rfl (lt_b rfl) ?_
      refine GoT.q rfl (QEx.addK rfl (.tmp rfl) (.tmp rfl)) rfl (lt_b rfl) ?_
      refine GoT.q rfl (QEx.geqK rfl (.tmp rfl) (.tmp rfl)) rfl (lt_b rfl) ?_
      refine GoT.q rfl (QEx.eq (QEx.assign rfl (.tmp rfl)) (congrArg boolAV hx7)) rfl (lt_b rfl) ?_
      refine GoT.nil ?_
      refine Wp.condS h rfl (fun h => ?_) (fun h => ?_)
      · refine let_e h fun x8 hx8 h => ?_
        refine Wp.region ?_
        refine GoT.q rfl (QEx.move rfl (.tmp rfl)) rfl (lt_b rfl) ?_
        refine GoT.q rfl (QEx.subK rfl (.tmp rfl) .con) rfl (lt_b rfl) ?_
        refine GoT.q rfl (QEx.eq (QEx.assign rfl (.tmp rfl)) (congrArg iAV hx8)) rfl (lt_b rfl) ?_
        refine GoT.nil ?_
        refine Wp.seq ?_
        refine Wp.region ?_
        refine GoT.q rfl (QEx.move rfl (.tmp rfl)) rfl (lt_b rfl) ?_
        refine GoT.q rfl (QEx.assign rfl (.tmp rfl)) rfl (lt_b rfl) ?_
        refine GoT.nil ?_
        refine Wp.ret ?_
        cases h
        exact LeafQ.ret [] (by decide) (.cons (.tmp rfl) .nil) rfl
      · refine Wp.skip ?_
        refine Wp.seq ?_
        refine Wp.region ?_
        refine GoT.q rfl (QEx.move rfl (.tmp rfl)) rfl (lt_b rfl) ?_
        refine GoT.q rfl (QEx.assign rfl (.tmp rfl)) rfl (lt_b rfl) ?_
        refine GoT.nil ?_
        refine Wp.ret ?_
        cases h
        exact LeafQ.ret [] (by decide) (.cons (.tmp rfl) .nil) rfl
theorem polygon_fan_ok {vertices : List Vec} {r : List polygon_triangle × Int} (h : polygon_fan vertices = some r) : FnR Try.prog 97 [((slAV 2 Vec.av) vertices)] (.tup [(slT 0 0 5 polygon_triangle.av r.1), (iAV r.2)]) := by
  refine FnR.intro' (fn := Try.f97) (N := 81) Try.func97 rfl rfl (Nat.le_of_ble_eq_true rfl) [2, 4, 6, 8, 9, 11, 16, 21, 29, 38, 47, 69, 74, 75, 79] ?_
  refine Wp.seq ?_
  refine Wp.region ?_
  refine GoT.q rfl (QEx.as (slT 2 0 5 polygon_triangle.av ([] : List polygon_triangle)) (QEx.assign rfl (.nil))) rfl (lt_b rfl) ?_
  refine GoT.q rfl (QEx.as (iAV 0) (QEx.assign rfl .con)) rfl (lt_b rfl) ?_
  refine GoT.nil ?_
  refine Wp.seq ?_
  refine Wp.region ?_
  refine GoT.q rfl (QEx.as (slT 4 0 5 polygon_triangle.av ([] : List polygon_triangle)) (QEx.assign rfl (.nil))) rfl (lt_b rfl) ?_
  refine GoT.nil ?_
  refine Wp.seq ?_
  refine Wp.region ?_
  refine GoT.q rfl (QEx.as (iAV 0) (QEx.assign rfl .con)) rfl (lt_b rfl) ?_
  refine GoT.nil ?_
  refine chk_e h fun c1 h => ?_
  refine let_e h fun x2 hx2 h => ?_
  refine Wp.seq ?_
  refine Wp.region ?_
  refine GoT.q rfl (QEx.move rfl (.tmp rfl)) rfl (lt_b rfl) ?_
  refine GoT.q rfl (QEx.as (.cptr (Vec.cells (ix vertices 0))) (QEx.idxL (E := Vec.av) rfl et35 (.tmp rfl) .con c1)) rfl (lt_b rfl) ?_
  refine GoT.q rfl (QEx.ldC (x := (Vec.av (ix vertices 0))) rfl ag24 ts24 (.tmp rfl) (.inl ⟨rfl, rfl, rfl⟩)) rfl (lt_b rfl) ?_
  refine GoT.a rfl (AEx.alZ rfl zt24 rfl rfl) rfl (lt_b rfl) ?_
  refine GoT.s rfl (AEx.sto (Z := (Vec.cells x2)) rfl rfl ts24 (.tmp rfl) rfl (.tmp rfl) rfl rfl (le_b rfl) (congrArg (fun (x : Vec) => (Vec.cells x)) hx2)) rfl ?_
  refine GoT.nil ?_
  refine Wp.join2 (fun v3 v4 => ⟨[(4, (slT 4 0 5 polygon_triangle.av v3)), (5, (iAV v4))], [], [2, 6, 8, 9, 11, 16, 21, 29, 38, 47, 69, 74, 75, 79]⟩) (fun v3 v4 => polygon_fan_j2 v3 v4 = some r) ?_ ?_
  · intro v3 v4 h
    refine Wp.seq ?_
    refine Wp.region ?_
    refine GoT.q rfl (QEx.move rfl (.tmp rfl)) rfl (lt_b rfl) ?_
    refine GoT.q rfl (QEx.move rfl (.tmp rfl)) rfl (lt_b rfl) ?_
    refine GoT.q rfl (QEx.assign rfl (.tmp rfl)) rfl (lt_b rfl) ?_
    refine GoT.q rfl (QEx.assign rfl (.tmp rfl)) rfl (lt_b rfl) ?_
    refine GoT.nil ?_
    refine Wp.ret ?_
    cases h
    exact LeafQ.ret [(4, 0)] (by decide) (.cons (.tmp rfl) (.cons (.tmp rfl) .nil)) rfl
  · refine Wp.seq ?_
    refine Wp.region ?_
    refine GoT.q rfl (QEx.as (iAV 1) (QEx.assign rfl .con)) rfl (lt_b rfl) ?_
    refine GoT.nil ?_
    refine Wp.block ?_
    refine Wp.loop3 (fun v5 v6 v7 => ⟨[(0, ((slAV 2 Vec.av) vertices)), (4, (slT 4 0 5 polygon_triangle.av v5)), (5, (iAV v6)), (6, (.ptr 6 0)), (7, (iAV v7))], [(6, .cells (Vec.cells x2))], [2, 8, 9, 11, 16, 21, 29, 38, 47, 69, 74, 75, 79]⟩) (fun n v5 v6 v7 => polygon_fan_l1 vertices x2 polygon_fan_j2 n v5 v6 v7 = some r) fuel ([] : List polygon_triangle) 0 1 [] [] h (LS.to.mk (.b rfl rfl (.r rfl rfl (.b rfl rfl (.r rfl rfl (.b rfl rfl .n))))) (.b rfl rfl rfl .n) rfl) ?_
    rintro (_ | n2) v5 v6 v7 h
    · exact none_e h
    rw [polygon_fan_l1] at h
    refine Wp.seq ?_
    refine Wp.seq ?_
    refine Wp.region ?_
    refine GoT.q rfl (QEx.move rfl (.tmp rfl)) rfl (lt_b rfl) ?_
    refine GoT.q rfl (QEx.addK rfl (.tmp rfl) .con) rfl (lt_b rfl) ?_
    refine GoT.q rfl (QEx.move rfl (.tmp rfl)) rfl (lt_b rfl) ?_
    refine GoT.q rfl (QEx.lenL rfl ⟨_, Try.underlying35⟩ (.tmp rfl)) rfl (lt_b rfl) ?_
    refine GoT.q rfl (QEx.lssK rfl (.tmp rfl) (.tmp rfl)) rfl (lt_b rfl) ?_
    refine GoT.nil ?_
    refine Wp.condS h rfl (fun h => ?_) (fun h => ?_)
    · refine Wp.skip ?_
      refine Wp.seq ?_
      refine Wp.block ?_
      refine chk_e h fun c8 h => ?_
      refine chk_e h fun c9 h => ?_
      refine let_e h fun x10 hx10 h => ?_
      refine Wp.seq ?_
      refine Wp.drawn2 (n0 := 19) [2, 9, 11, 16, 21, 29, 38, 47, 69, 74, 75, 79] mixed ?_
      refine GoD.q rfl (QEx.move rfl (.tmp rfl)) rfl (lt_b rfl) ?_
      refine GoD.q rfl (QEx.move rfl (.tmp rfl)) rfl (lt_b rfl) ?_
      refine GoD.q rfl (QEx.as (.cptr (Vec.cells (ix vertices v7))) (QEx.idxL (E := Vec.av) rfl et35 (.tmp rfl) (.tmp rfl) c8)) rfl (lt_b rfl) ?_
      refine GoD.q rfl (QEx.fldC [(iAV ((ix vertices v7).X))] rfl Try.underlying24 rfl ts3 rfl (.tmp rfl) rfl) rfl (lt_b rfl) ?_
      refine GoD.q rfl (QEx.ldC (x := (iAV ((ix vertices v7).X))) rfl ag3 ts3 (.tmp rfl) (.inr ⟨rfl, rfl⟩)) rfl (lt_b rfl) ?_
      refine GoD.q rfl (QEx.fldP 0 rfl Try.underlying24 rfl ts3 rfl (.tmp rfl) rfl) rfl (lt_b rfl) ?_
      refine GoD.qr rfl rfl (QEx.ldP1 (Vec.cells x2) (iAV x2.X) rfl ag3 (.tmp rfl) rfl) rfl (lt_b rfl) ?_
      refine GoD.q rfl (QEx.subK rfl (.tmp rfl) (.tmp rfl)) rfl (lt_b rfl) ?_
      refine GoD.q rfl (QEx.move rfl (.tmp rfl)) rfl (lt_b rfl) ?_
      refine GoD.q rfl (QEx.move rfl (.tmp rfl)) rfl (lt_b rfl) ?_
      refine GoD.q rfl (QEx.as (.cptr (Vec.cells (ix vertices v7))) (QEx.idxL (E := Vec.av) rfl et35 (.tmp rfl) (.tmp rfl) c9)) rfl (lt_b rfl) ?_
      refine GoD.q rfl (QEx.fldC [(iAV ((ix vertices v7).Y))] rfl Try.underlying24 rfl ts3 rfl (.tmp rfl) rfl) rfl (lt_b rfl) ?_
      refine GoD.q rfl (QEx.ldC (x := (iAV ((ix vertices v7).Y))) rfl ag3 ts3 (.tmp rfl) (.inr ⟨rfl, rfl⟩)) rfl (lt_b rfl) ?_
      refine GoD.q rfl (QEx.fldP 1 rfl Try.underlying24 rfl ts3 rfl (.tmp rfl) rfl) rfl (lt_b rfl) ?_
      refine GoD.qr rfl rfl (QEx.ldP1 (Vec.cells x2) (iAV x2.Y) rfl ag3 (.tmp rfl) rfl) rfl (lt_b rfl) ?_
      refine GoD.q rfl (QEx.subK rfl (.tmp rfl) (.tmp rfl)) rfl (lt_b rfl) ?_
      refine GoD.q rfl (QEx.as (Vec.av (⟨(w64 (((ix vertices v7).X) - x2.X)), (w64 (((ix vertices v7).Y) - x2.Y))⟩ : Vec)) (QEx.buildZ rfl Try.underlying24 zt24 (by kernel_rfl) (.cons rfl (.tmp rfl) rfl rfl (le_b rfl) (.cons rfl (.tmp rfl) rfl rfl (le_b rfl) .nil)))) rfl (lt_b rfl) ?_
      refine GoD.al rfl rfl zt24 rfl (lt_b rfl) ?_
      refine GoD.s rfl (Z := (Vec.cells x10)) rfl rfl ts24 (.tmp rfl) rfl (.tmp rfl) rfl rfl (le_b rfl) (congrArg (fun (x : Vec) => (Vec.cells x)) hx10) ?_
      refine GoD.nil ⟨by kernel_rfl, by kernel_rfl, by kernel_rfl, by kernel_rfl, by kernel_rfl, ?_⟩
      refine GoT.nil ?_
      refine chk_e h fun c11 h => ?_
      refine chk_e h fun c12 h => ?_
      refine let_e h fun x13 hx13 h => ?_
      refine Wp.seq ?_
      refine Wp.drawn2 (n0 := 21) [2, 11, 16, 21, 29, 38, 47, 69, 74, 75, 79] mixed ?_
      refine GoD.q rfl (QEx.move rfl (.tmp rfl)) rfl (lt_b rfl) ?_
      refine GoD.q rfl (QEx.move rfl (.tmp rfl)) rfl (lt_b rfl) ?_
      refine GoD.q rfl (QEx.addK rfl (.tmp rfl) .con) rfl (lt_b rfl) ?_
      refine GoD.q rfl (QEx.as (.cptr (Vec.cells (ix vertices (w64 (v7 + 1))))) (QEx.idxL (E := Vec.av) rfl et35 (.tmp rfl) (.tmp rfl) c11)) rfl (lt_b rfl) ?_
      refine GoD.q rfl (QEx.fldC [(iAV ((ix vertices (w64 (v7 + 1))).X))] rfl Try.underlying24 rfl ts3 rfl (.tmp rfl) rfl) rfl (lt_b rfl) ?_
      refine GoD.q rfl (QEx.ldC (x := (iAV ((ix vertices (w64 (v7 + 1))).X))) rfl ag3 ts3 (.tmp rfl) (.inr ⟨rfl, rfl⟩)) rfl (lt_b rfl) ?_
      refine GoD.q rfl (QEx.fldP 0 rfl Try.underlying24 rfl ts3 rfl (.tmp rfl) rfl) rfl (lt_b rfl) ?_
      refine GoD.qr rfl rfl (QEx.ldP1 (Vec.cells x2) (iAV x2.X) rfl ag3 (.tmp rfl) rfl) rfl (lt_b rfl) ?_
      refine GoD.q rfl (QEx.subK rfl (.tmp rfl) (.tmp rfl)) rfl (lt_b rfl) ?_
      refine GoD.q rfl (QEx.move rfl (.tmp rfl)) rfl (lt_b rfl) ?_
      refine GoD.q rfl (QEx.move rfl (.tmp rfl)) rfl (lt_b rfl) ?_
      refine GoD.q rfl (QEx.addK rfl (.tmp rfl) .con) rfl (lt_b rfl) ?_
      refine GoD.q rfl (QEx.as (.cptr (Vec.cells (ix vertices (w64 (v7 + 1))))) (QEx.idxL (E := Vec.av) rfl et35 (.tmp rfl) (.tmp rfl) c12)) rfl (lt_b rfl) ?_
      refine GoD.q rfl (QEx.fldC [(iAV ((ix vertices (w64 (v7 + 1))).Y))] rfl Try.underlying24 rfl ts3 rfl (.tmp rfl) rfl) rfl (lt_b rfl) ?_
      refine GoD.q rfl (QEx.ldC (x := (iAV ((ix vertices (w64 (v7 + 1))).Y))) rfl ag3 ts3 (.tmp rfl) (.inr ⟨rfl, rfl⟩)) rfl (lt_b rfl) ?_
      refine GoD.q rfl (QEx.fldP 1 rfl Try.underlying24 rfl ts3 rfl (.tmp rfl) rfl) rfl (lt_b rfl) ?_
      refine GoD.qr rfl rfl (QEx.ldP1 (Vec.cells x2) (iAV x2.Y) rfl ag3 (.tmp rfl) rfl) rfl (lt_b rfl) ?_
      refine GoD.q rfl (QEx.subK rfl (.tmp rfl) (.tmp rfl)) rfl (lt_b rfl) ?_
      refine GoD.q rfl (QEx.as (Vec.av (⟨(w64 (((ix vertices (w64 (v7 + 1))).X) - x2.X)), (w64 (((ix vertices (w64 (v7 + 1))).Y) - x2.Y))⟩ : Vec)) (QEx.buildZ rfl Try.underlying24 zt24 (by kernel_rfl) (.cons rfl (.tmp rfl) rfl rfl (le_b rfl) (.cons rfl (.tmp rfl) rfl rfl (le_b rfl) .nil)))) rfl (lt_b rfl) ?_
      refine GoD.al rfl rfl zt24 rfl (lt_b rfl) ?_
      refine GoD.s rfl (Z := (Vec.cells x13)) rfl rfl ts24 (.tmp rfl) rfl (.tmp rfl) rfl rfl (le_b rfl) (congrArg (fun (x : Vec) => (Vec.cells x)) hx13) ?_
      refine GoD.nil ⟨by kernel_rfl, by kernel_rfl, by kernel_rfl, by kernel_rfl, by kernel_rfl, ?_⟩
      refine GoT.nil ?_
      refine bind_e h fun r14 hr14 h => ?_
      refine Wp.seq ?_
      refine Wp.region ?_
      refine GoT.q rfl (QEx.fldP 0 rfl Try.underlying24 rfl ts3 rfl (.tmp rfl) rfl) rfl (lt_b rfl) ?_
      refine GoT.qr rfl rfl (QEx.ldP1 (Vec.cells x10) (iAV x10.X) rfl ag3 (.tmp rfl) rfl) rfl (lt_b rfl) ?_
      refine GoT.q rfl (QEx.fldP 1 rfl Try.underlying24 rfl ts3 rfl (.tmp rfl) rfl) rfl (lt_b rfl) ?_
      refine GoT.qr rfl rfl (QEx.ldP1 (Vec.cells x13) (iAV x13.Y) rfl ag3 (.tmp rfl) rfl) rfl (lt_b rfl) ?_
      refine GoT.q rfl (QEx.mulK rfl (.tmp rfl) (.tmp rfl)) rfl (lt_b rfl) ?_
      refine GoT.q rfl (QEx.fldP 1 rfl Try.underlying24 rfl ts3 rfl (.tmp rfl) rfl) rfl (lt_b rfl) ?_
      refine GoT.qr rfl rfl (QEx.ldP1 (Vec.cells x10) (iAV x10.Y) rfl ag3 (.tmp rfl) rfl) rfl (lt_b rfl) ?_
      refine GoT.q rfl (QEx.fldP 0 rfl Try.underlying24 rfl ts3 rfl (.tmp rfl) rfl) rfl (lt_b rfl) ?_
      refine GoT.qr rfl rfl (QEx.ldP1 (Vec.cells x13) (iAV x13.X) rfl ag3 (.tmp rfl) rfl) rfl (lt_b rfl) ?_
      refine GoT.q rfl (QEx.mulK rfl (.tmp rfl) (.tmp rfl)) rfl (lt_b rfl) ?_
      refine GoT.q rfl (QEx.subK rfl (.tmp rfl) (.tmp rfl)) rfl (lt_b rfl) ?_
      refine GoT.q rfl (QEx.cal0 (r := (iAV r14)) [(iAV (w64 ((w64 (x10.X * x13.Y)) - (w64 (x10.Y * x13.X))))), (iAV 65536)] rfl Try.call55 (.cons (.tmp rfl) (.cons .con .nil)) (fixed_RoundDiv_ok hr14) rfl rfl) rfl (lt_b rfl) ?_
      refine GoT.q rfl (QEx.assign rfl (.tmp rfl)) rfl (lt_b rfl) ?_
      refine GoT.nil ?_
      refine chk_e h fun c15 h => ?_
      refine let_e h fun x16 hx16 h => ?_
      refine Wp.seq ?_
      refine Wp.region ?_
      refine GoT.q rfl (QEx.move rfl (.tmp rfl)) rfl (lt_b rfl) ?_
      refine GoT.qr rfl rfl (QEx.ldP (Vec.cells x10) (Vec.av x10) rfl ag24 ts24 (.tmp rfl) (le_b rfl) rfl) rfl (lt_b rfl) ?_
      refine GoT.qr rfl rfl (QEx.ldP (Vec.cells x13) (Vec.av x13) rfl ag24 ts24 (.tmp rfl) (le_b rfl) rfl) rfl (lt_b rfl) ?_
      refine GoT.q rfl (QEx.move rfl (.tmp rfl)) rfl (lt_b rfl) ?_
      refine GoT.q rfl (QEx.as (polygon_triangle.av (⟨x10, x13, r14⟩ : polygon_triangle)) (QEx.buildZ rfl Try.underlying124 zt124 (by kernel_rfl) (.cons rfl (.tmp rfl) rfl rfl (le_b rfl) (.cons rfl (.tmp rfl) rfl rfl (le_b rfl) (.cons rfl (.tmp rfl) rfl rfl (le_b rfl) .nil))))) rfl (lt_b rfl) ?_
      refine GoT.q rfl (QEx.as (slT 74 0 5 polygon_triangle.av ([(⟨x10, x13, r14⟩ : polygon_triangle)] : List polygon_triangle)) (QEx.buildSlice rfl et118 (.cons (.tmp rfl) rfl rfl rfl .nil) rfl (by decide))) rfl (lt_b rfl) ?_
      refine GoT.a rfl (AEx.appL (E := polygon_triangle.av) rfl et118 (.tmp rfl) (.tmp rfl) rfl c15 rfl rfl hx16 (by decide)) rfl (lt_b rfl) ?_
      refine GoT.q rfl (QEx.assign rfl (.tmp rfl)) rfl (lt_b rfl) ?_
      refine GoT.nil ?_
      refine let_e h fun x17 hx17 h => ?_
      refine Wp.region ?_
      refine GoT.q rfl (QEx.move rfl (.tmp rfl)) rfl (lt_b rfl) ?_
      refine GoT.q rfl (QEx.move rfl (.tmp rfl)) rfl (lt_b rfl) ?_
      refine GoT.q rfl (QEx.addK rfl (.tmp rfl) (.tmp rfl)) rfl (lt_b rfl) ?_
      refine GoT.q rfl (QEx.eq (QEx.assign rfl (.tmp rfl)) (congrArg iAV hx17)) rfl (lt_b rfl) ?_
      refine GoT.nil ?_
      refine let_e h fun x18 hx18 h => ?_
      refine Wp.region ?_
      refine GoT.q rfl (QEx.move rfl (.tmp rfl)) rfl (lt_b rfl) ?_
      refine GoT.q rfl (QEx.addK rfl (.tmp rfl) .con) rfl (lt_b rfl) ?_
      refine GoT.q rfl (QEx.eq (QEx.assign rfl (.tmp rfl)) (congrArg iAV hx18)) rfl (lt_b rfl) ?_
      refine GoT.nil ?_
      exact Round3.mk x16 x17 x18 [8, 9] [(75, 4)] h (LS.to.mk (.b rfl rfl (.r rfl rfl (.b rfl rfl (.r rfl rfl (.b rfl rfl .n))))) (.b rfl rfl rfl .n) rfl)
    · refine Wp.exit ?_
      exact Joined2.mk v5 v6 [6] [] h (LS.to.mk (.r rfl rfl (.b rfl rfl .n)) .n rfl)
theorem polygon_Area_ok {vertices : List Vec} {r : Int} (h : polygon_Area vertices = some r) : FnR Try.prog 84 [((slAV 2 Vec.av) vertices)] (iAV r) := by
  refine FnR.intro' (fn := Try.f84) (N := 15) Try.func84 rfl rfl (Nat.le_of_ble_eq_true rfl) [3, 5, 9, 10] ?_
  refine Wp.seq ?_
  refine Wp.region ?_
  refine GoT.q rfl (QEx.as (iAV 0) (QEx.assign rfl .con)) rfl (lt_b rfl) ?_
  refine GoT.nil ?_
  refine Wp.seq ?_
  refine bind_e h fun r1 hr1 h => ?_
  refine Wp.seq ?_
  refine Wp.region ?_
  refine GoT.q rfl (QEx.move rfl (.tmp rfl)) rfl (lt_b rfl) ?_
  refine GoT.q rfl (QEx.cal0 (r := (boolAV r1)) [((slAV 2 Vec.av) vertices)] rfl Try.call82 (.cons (.tmp rfl) .nil) (polygon_IsConvex_ok hr1) rfl rfl) rfl (lt_b rfl) ?_
  refine GoT.q rfl (QEx.notK rfl (.tmp rfl)) rfl (lt_b rfl) ?_
  refine GoT.nil ?_
  refine Wp.condS h rfl (fun h => ?_) (fun h => ?_)
  · refine Wp.seq ?_
    refine Wp.region ?_
    refine GoT.q rfl (QEx.as (iAV 0) (QEx.assign rfl .con)) rfl (lt_b rfl) ?_
    refine GoT.nil ?_
    refine Wp.ret ?_
    cases h
    exact LeafQ.ret [] (by decide) (.cons (.tmp rfl) .nil) rfl
  · refine Wp.skip ?_
    refine bind_e h fun r2 hr2 h => ?_
    refine Wp.seq ?_
    refine Wp.region ?_
    refine GoT.q rfl (QEx.move rfl (.tmp rfl)) rfl (lt_b rfl) ?_
    refine GoT.c rfl (QEx.cal (r' := (.tup [(slT 10 0 5 polygon_triangle.av r2.1), (iAV r2.2)])) [((slAV 2 Vec.av) vertices)] rfl Try.call97 (.cons (.tmp rfl) .nil) (polygon_fan_ok hr2) rfl rfl rfl) rfl rfl (lt_b rfl) ?_
    refine GoT.q rfl (QEx.move rfl (.tmp rfl)) rfl (lt_b rfl) ?_
    refine GoT.q rfl (QEx.extract rfl (.tmp rfl) rfl) rfl (lt_b rfl) ?_
    refine GoT.q rfl (QEx.extract rfl (.tmp rfl) rfl) rfl (lt_b rfl) ?_
    refine GoT.q rfl (QEx.assign rfl (.tmp rfl)) rfl (lt_b rfl) ?_
    refine GoT.q rfl (QEx.assign rfl (.tmp rfl)) rfl (lt_b rfl) ?_
    refine GoT.nil ?_
    refine bind_e h fun r3 hr3 h => ?_
    refine Wp.seq ?_
    refine Wp.region ?_
    refine GoT.q rfl (QEx.move rfl (.tmp rfl)) rfl (lt_b rfl) ?_
    refine GoT.q rfl (QEx.cal0 (r := (iAV r3)) [(iAV r2.2), (iAV 2)] rfl Try.call55 (.cons (.tmp rfl) (.cons .con .nil)) (fixed_RoundDiv_ok hr3) rfl rfl) rfl (lt_b rfl) ?_
    refine GoT.q rfl (QEx.assign rfl (.tmp rfl)) rfl (lt_b rfl) ?_
    refine GoT.nil ?_
    refine Wp.ret ?_
    cases h
    exact LeafQ.ret [] (by decide) (.cons (.tmp rfl) .nil) rfl
theorem shape_Validate_ok {s : Shape} {r : Int} (h : shape_Validate s = some r) : FnR Try.prog 61 [(Shape.av s)] (iAV r) := by
  refine FnR.intro' (fn := Try.f61) (N := 81) Try.func61 rfl rfl (Nat.le_of_ble_eq_true rfl) [1] ?_
  refine Wp.seq ?_
  refine Wp.region ?_
  refine GoT.a rfl (AEx.bx (Z := (Shape.cells s)) rfl (.tmp rfl) rfl rfl rfl rfl) rfl (lt_b rfl) ?_
  refine GoT.q rfl (QEx.as (iAV 0) (QEx.assign rfl .con)) rfl (lt_b rfl) ?_
  refine GoT.nil ?_
  refine Wp.seq ?_
  refine Wp.block ?_
  refine let_e h fun x1 hx1 h => ?_
  refine Wp.seq ?_
  refine Wp.region ?_
  refine GoT.q rfl (QEx.fldP 0 rfl Try.underlying37 rfl ts34 rfl (.tmp rfl) rfl) rfl (lt_b rfl) ?_
  refine GoT.qr rfl rfl (QEx.ldP1 (Shape.cells s) (iAV s.Kind) rfl ag34 (.tmp rfl) rfl) rfl (lt_b rfl) ?_
  refine GoT.q rfl (QEx.lssK rfl (.tmp rfl) .con) rfl (lt_b rfl) ?_
  refine GoT.q rfl (QEx.move rfl (.tmp rfl)) rfl (lt_b rfl) ?_
  refine GoT.g rfl rfl rfl (fun hg => QEx.fldP 0 rfl Try.underlying37 rfl ts34 rfl (.tmp rfl) rfl) rfl (lt_b rfl) ?_
  refine GoT.gr rfl rfl rfl rfl (fun hg => QEx.ldP1 (Shape.cells s) (iAV s.Kind) rfl ag34 (.opt (.tmp rfl) hg) rfl) rfl (lt_b rfl) ?_
  refine GoT.g rfl rfl rfl (fun hg => QEx.gtrK rfl (.opt (.tmp rfl) hg) .con) rfl (lt_b rfl) ?_
  refine GoT.q rfl (QEx.pickK rfl (.tmp rfl) (fun hp => .con) (fun hp => (.opt (.tmp rfl) (beq_f hp)))) rfl (lt_b rfl) ?_
  refine GoT.q rfl (QEx.eq (QEx.assign rfl (.tmp rfl)) (congrArg boolAV hx1)) rfl (lt_b rfl) ?_
  refine GoT.nil ?_
  refine Wp.condS h rfl (fun h => ?_) (fun h => ?_)
  · refine Wp.seq ?_
    refine Wp.region ?_
    refine GoT.q rfl (QEx.as (iAV 10) (QEx.assign rfl .con)) rfl (lt_b rfl) ?_
    refine GoT.nil ?_
    refine Wp.ret ?_
    cases h
    exact LeafQ.ret [] (by decide) (.cons (.tmp rfl) .nil) rfl
  · refine let_e h fun r2 hr2 h => ?_
    refine let_e h fun x3 hx3 h => ?_
    refine Wp.seq ?_
    refine Wp.region ?_
    refine GoT.qr rfl rfl (QEx.ldP (Shape.cells s) (Shape.av s) rfl ag37 ts37 (.tmp rfl) (le_b rfl) rfl) rfl (lt_b rfl) ?_
    refine GoT.q rfl (QEx.cal0 (r := (boolAV r2)) [(Shape.av s)] rfl Try.call78 (.cons (.tmp rfl) .nil) (shape_validCount_ok hr2) rfl rfl) rfl (lt_b rfl) ?_
    refine GoT.q rfl (QEx.notK rfl (.tmp rfl)) rfl (lt_b rfl) ?_
    refine GoT.q rfl (QEx.eq (QEx.assign rfl (.tmp rfl)) (congrArg boolAV hx3)) rfl (lt_b rfl) ?_
    refine GoT.nil ?_
    refine Wp.condS h rfl (fun h => ?_) (fun h => ?_)
    · refine Wp.seq ?_
      refine Wp.region ?_
      refine GoT.q rfl (QEx.as (iAV 11) (QEx.assign rfl .con)) rfl (lt_b rfl) ?_
      refine GoT.nil ?_
      refine Wp.ret ?_
      cases h
      exact LeafQ.ret [] (by decide) (.cons (.tmp rfl) .nil) rfl
    · refine bind_e h fun r4 hr4 h => ?_
      refine Wp.seq ?_
      refine Wp.region ?_
      refine GoT.q rfl (QEx.fldP 2 rfl Try.underlying37 rfl ts35 rfl (.tmp rfl) rfl) rfl (lt_b rfl) ?_
      refine GoT.qr rfl rfl (QEx.ldP1 (Shape.cells s) ((slAV 2 Vec.av) s.Vertices) rfl ag35 (.tmp rfl) rfl) rfl (lt_b rfl) ?_
      refine GoT.q rfl (QEx.cal0 (r := (boolAV r4)) [((slAV 2 Vec.av) s.Vertices), (.clo 80 [])] rfl Try.call79 (.cons (.tmp rfl) (.cons .fn .nil)) (slices_ContainsFunc_Vec_ok ⟨Try.call80, fun x r h => (shape_Validate_c1_ok (Option.some.inj h))⟩ hr4) rfl rfl) rfl (lt_b rfl) ?_
      refine GoT.q rfl (QEx.assign rfl (.tmp rfl)) rfl (lt_b rfl) ?_
      refine GoT.nil ?_
      refine Wp.condS h rfl (fun h => ?_) (fun h => ?_)
      · refine Wp.seq ?_
        refine Wp.region ?_
        refine GoT.q rfl (QEx.as (iAV 6) (QEx.assign rfl .con)) rfl (lt_b rfl) ?_
        refine GoT.nil ?_
        refine Wp.ret ?_
        cases h
        exact LeafQ.ret [] (by decide) (.cons (.tmp rfl) .nil) rfl
      · refine Wp.join1 (fun v5 => ⟨[(1, (.ptr 1 0)), (20, (boolAV v5))], [(1, .cells (Shape.cells s))], []⟩) (fun v5 => (shape_Validate_j1 s) v5 = some r) ?_ ?_
        · intro v5 h
          refine Wp.condS h rfl (fun h => ?_) (fun h => ?_)
          · refine Wp.seq ?_
            refine Wp.region ?_
            refine GoT.q rfl (QEx.as (iAV 6) (QEx.assign rfl .con)) rfl (lt_b rfl) ?_
            refine GoT.nil ?_
            refine Wp.ret ?_
            cases h
            exact LeafQ.ret [] (by decide) (.cons (.tmp rfl) .nil) rfl
          · refine chk_e h fun c8 h => ?_
            refine chk_e h fun c9 h => ?_
            refine let_e h fun r10 hr10 h => ?_
            refine bind_e h fun r11 hr11 h => ?_
            refine let_e h fun x12 hx12 h => ?_
            refine Wp.seq ?_
            refine Wp.drawn2 (n0 := 17) [] mixed ?_
            refine GoD.q rfl (QEx.fldP 0 rfl Try.underlying37 rfl ts34 rfl (.tmp rfl) rfl) rfl (lt_b rfl) ?_
            refine GoD.qr rfl rfl (QEx.ldP1 (Shape.cells s) (iAV s.Kind) rfl ag34 (.tmp rfl) rfl) rfl (lt_b rfl) ?_
            refine GoD.q rfl (QEx.eqlK rfl (.tmp rfl) .con) rfl (lt_b rfl) ?_
            refine GoD.q rfl (QEx.move rfl (.tmp rfl)) rfl (lt_b rfl) ?_
            refine GoD.g rfl rfl rfl (fun hg => QEx.fldP 2 rfl Try.underlying37 rfl ts35 rfl (.tmp rfl) rfl) rfl (lt_b rfl) ?_
            refine GoD.gr rfl rfl rfl rfl (fun hg => QEx.ldP1 (Shape.cells s) ((slAV 2 Vec.av) s.Vertices) rfl ag35 (.opt (.tmp rfl) hg) rfl) rfl (lt_b rfl) ?_
            refine GoD.g rfl rfl rfl (fun hg => QEx.as (.cptr (Vec.cells (ix s.Vertices 1))) (QEx.idxL (E := Vec.av) rfl et35 (.opt (.tmp rfl) hg) .con (c8 hg))) rfl (lt_b rfl) ?_
            refine GoD.g rfl rfl rfl (fun hg => QEx.ldC (x := (Vec.av (ix s.Vertices 1))) rfl ag24 ts24 (.opt (.tmp rfl) hg) (.inl ⟨rfl, rfl, rfl⟩)) rfl (lt_b rfl) ?_
            refine GoD.g rfl rfl rfl (fun hg => QEx.fldP 2 rfl Try.underlying37 rfl ts35 rfl (.tmp rfl) rfl) rfl (lt_b rfl) ?_
            refine GoD.gr rfl rfl rfl rfl (fun hg => QEx.ldP1 (Shape.cells s) ((slAV 2 Vec.av) s.Vertices) rfl ag35 (.opt (.tmp rfl) hg) rfl) rfl (lt_b rfl) ?_
            refine GoD.g rfl rfl rfl (fun hg => QEx.as (.cptr (Vec.cells (ix s.Vertices 0))) (QEx.idxL (E := Vec.av) rfl et35 (.opt (.tmp rfl) hg) .con (c9 hg))) rfl (lt_b rfl) ?_
            refine GoD.g rfl rfl rfl (fun hg => QEx.ldC (x := (Vec.av (ix s.Vertices 0))) rfl ag24 ts24 (.opt (.tmp rfl) hg) (.inl ⟨rfl, rfl, rfl⟩)) rfl (lt_b rfl) ?_
            refine GoD.g rfl rfl rfl (fun hg => QEx.cal0 (r := (Vec.av r10)) [(Vec.av (ix s.Vertices 1)), (Vec.av (ix s.Vertices 0))] rfl Try.call28 (.cons (.opt (.tmp rfl) hg) (.cons (.opt (.tmp rfl) hg) .nil)) (vec2_Sub_ok hr10) rfl rfl) rfl (lt_b rfl) ?_
            refine GoD.g rfl rfl rfl (fun hg => QEx.cal0 (r := (iAV r11)) [(Vec.av r10)] rfl Try.call42 (.cons (.opt (.tmp rfl) hg) .nil) (vec2_Length_ok (gcall hr11 hg)) rfl rfl) rfl (lt_b rfl) ?_
            refine GoD.g rfl rfl rfl (fun hg => QEx.lssK rfl (.opt (.tmp rfl) hg) .con) rfl (lt_b rfl) ?_
            refine GoD.q rfl (QEx.pickK rfl (.tmp rfl) (fun hp => (.opt (.tmp rfl) (beq_t hp))) (fun hp => .con)) rfl (lt_b rfl) ?_
            refine GoD.q rfl (QEx.eq (QEx.assign rfl (.tmp rfl)) (congrArg boolAV hx12)) rfl (lt_b rfl) ?_
            refine GoD.nil ⟨by kernel_rfl, by kernel_rfl, by kernel_rfl, by kernel_rfl, by kernel_rfl, ?_⟩
            refine GoT.nil ?_
            refine Wp.condS h rfl (fun h => ?_) (fun h => ?_)
            · refine Wp.seq ?_
              refine Wp.region ?_
              refine GoT.q rfl (QEx.as (iAV 12) (QEx.assign rfl .con)) rfl (lt_b rfl) ?_
              refine GoT.nil ?_
              refine Wp.ret ?_
              cases h
              exact LeafQ.ret [] (by decide) (.cons (.tmp rfl) .nil) rfl
            · refine bind_e h fun r13 hr13 h => ?_
              refine bind_e h fun r14 hr14 h => ?_
              refine bind_e h fun r15 hr15 h => ?_
              refine let_e h fun x16 hx16 h => ?_
              refine Wp.seq ?_
              refine Wp.region ?_
              refine GoT.q rfl (QEx.fldP 0 rfl Try.underlying37 rfl ts34 rfl (.tmp rfl) rfl) rfl (lt_b rfl) ?_
              refine GoT.qr rfl rfl (QEx.ldP1 (Shape.cells s) (iAV s.Kind) rfl ag34 (.tmp rfl) rfl) rfl (lt_b rfl) ?_
              refine GoT.q rfl (QEx.eqlK rfl (.tmp rfl) .con) rfl (lt_b rfl) ?_
              refine GoT.q rfl (QEx.move rfl (.tmp rfl)) rfl (lt_b rfl) ?_
              refine GoT.g rfl rfl rfl (fun hg => QEx.fldP 2 rfl Try.underlying37 rfl ts35 rfl (.tmp rfl) rfl) rfl (lt_b rfl) ?_
              refine GoT.gr rfl rfl rfl rfl (fun hg => QEx.ldP1 (Shape.cells s) ((slAV 2 Vec.av) s.Vertices) rfl ag35 (.opt (.tmp rfl) hg) rfl) rfl (lt_b rfl) ?_
              refine GoT.g rfl rfl rfl (fun hg => QEx.cal0 (r := (boolAV r13)) [((slAV 2 Vec.av) s.Vertices)] rfl Try.call82 (.cons (.opt (.tmp rfl) hg) .nil) (polygon_IsConvex_ok (gcall hr13 hg)) rfl rfl) rfl (lt_b rfl) ?_
              refine GoT.g rfl rfl rfl (fun hg => QEx.notK rfl (.opt (.tmp rfl) hg)) rfl (lt_b rfl) ?_
              refine GoT.g rfl rfl rfl (fun hg => QEx.move rfl (.opt (.tmp rfl) hg)) rfl (lt_b rfl) ?_
              refine GoT.g2 rfl rfl rfl (fun hg => QEx.fldP 2 rfl Try.underlying37 rfl ts35 rfl (.tmp rfl) rfl) rfl (lt_b rfl) ?_
              refine GoT.gr2 rfl rfl rfl rfl (fun hg => QEx.ldP1 (Shape.cells s) ((slAV 2 Vec.av) s.Vertices) rfl ag35 (.opt (.tmp rfl) hg) rfl) rfl (lt_b rfl) ?_
              refine GoT.g2 rfl rfl rfl (fun hg => QEx.cal0 (r := (iAV r14)) [((slAV 2 Vec.av) s.Vertices)] rfl Try.call83 (.cons (.opt (.tmp rfl) hg) .nil) (polygon_ShortestEdge_ok (gcall hr14 hg)) rfl rfl) rfl (lt_b rfl) ?_
              refine GoT.g2 rfl rfl rfl (fun hg => QEx.lssK rfl (.opt (.tmp rfl) hg) .con) rfl (lt_b rfl) ?_
              refine GoT.g rfl rfl rfl (fun hg => QEx.pickK rfl (.opt (.tmp rfl) hg) (fun hp => .con) (fun hp => (.opt (.tmp rfl) (and_i hg (beq_f hp))))) rfl (lt_b rfl) ?_
              refine GoT.g rfl rfl rfl (fun hg => QEx.move rfl (.opt (.tmp rfl) hg)) rfl (lt_b rfl) ?_
              refine GoT.g2 rfl rfl rfl (fun hg => QEx.fldP 2 rfl Try.underlying37 rfl ts35 rfl (.tmp rfl) rfl) rfl (lt_b rfl) ?_
              refine GoT.gr2 rfl rfl rfl rfl (fun hg => QEx.ldP1 (Shape.cells s) ((slAV 2 Vec.av) s.Vertices) rfl ag35 (.opt (.tmp rfl) hg) rfl) rfl (lt_b rfl) ?_
              refine GoT.g2 rfl rfl rfl (fun hg => QEx.cal0 (r := (iAV r15)) [((slAV 2 Vec.av) s.Vertices)] rfl Try.call84 (.cons (.opt (.tmp rfl) hg) .nil) (polygon_Area_ok (gcall hr15 hg)) rfl rfl) rfl (lt_b rfl) ?_
              refine GoT.g2 rfl rfl rfl (fun hg => QEx.lssK rfl (.opt (.tmp rfl) hg) .con) rfl (lt_b rfl) ?_
              refine GoT.g rfl rfl rfl (fun hg => QEx.pickK rfl (.opt (.tmp rfl) hg) (fun hp => .con) (fun hp => (.opt (.tmp rfl) (and_i hg (beq_f hp))))) rfl (lt_b rfl) ?_
              refine GoT.q rfl (QEx.pickK rfl (.tmp rfl) (fun hp => (.opt (.tmp rfl) (beq_t hp))) (fun hp => .con)) rfl (lt_b rfl) ?_
              refine GoT.q rfl (QEx.eq (QEx.assign rfl (.tmp rfl)) (congrArg boolAV hx16)) rfl (lt_b rfl) ?_
              refine GoT.nil ?_
              refine Wp.condS h rfl (fun h => ?_) (fun h => ?_)
              · refine Wp.seq ?_
                refine Wp.region ?_
                refine GoT.q rfl (QEx.as (iAV 12) (QEx.assign rfl .con)) rfl (lt_b rfl) ?_
                refine GoT.nil ?_
                refine Wp.ret ?_
                cases h
                exact LeafQ.ret [] (by decide) (.cons (.tmp rfl) .nil) rfl
              · refine Wp.skip ?_
                refine Wp.seq ?_
                refine Wp.region ?_
                refine GoT.q rfl (QEx.as (iAV 0) (QEx.assign rfl .con)) rfl (lt_b rfl) ?_
                refine GoT.nil ?_
                refine Wp.ret ?_
                cases h
                exact LeafQ.ret [] (by decide) (.cons (.tmp rfl) .nil) rfl
        · refine let_e h fun x6 hx6 h => ?_
          refine Wp.seq ?_
          refine Wp.region ?_
          refine GoT.q rfl (QEx.fldP 0 rfl Try.underlying37 rfl ts34 rfl (.tmp rfl) rfl) rfl (lt_b rfl) ?_
          refine GoT.qr rfl rfl (QEx.ldP1 (Shape.cells s) (iAV s.Kind) rfl ag34 (.tmp rfl) rfl) rfl (lt_b rfl) ?_
          refine GoT.q rfl (QEx.eqlK rfl (.tmp rfl) .con) rfl (lt_b rfl) ?_
          refine GoT.q rfl (QEx.move rfl (.tmp rfl)) rfl (lt_b rfl) ?_
          refine GoT.g rfl rfl rfl (fun hg => QEx.fldP 1 rfl Try.underlying37 rfl ts3 rfl (.tmp rfl) rfl) rfl (lt_b rfl) ?_
          refine GoT.gr rfl rfl rfl rfl (fun hg => QEx.ldP1 (Shape.cells s) (iAV s.Radius) rfl ag3 (.opt (.tmp rfl) hg) rfl) rfl (lt_b rfl) ?_
          refine GoT.g rfl rfl rfl (fun hg => QEx.neqK rfl (.opt (.tmp rfl) hg) .con) rfl (lt_b rfl) ?_
          refine GoT.q rfl (QEx.pickK rfl (.tmp rfl) (fun hp => (.opt (.tmp rfl) (beq_t hp))) (fun hp => .con)) rfl (lt_b rfl) ?_
          refine GoT.q rfl (QEx.eq (QEx.assign rfl (.tmp rfl)) (congrArg boolAV hx6)) rfl (lt_b rfl) ?_
          refine GoT.nil ?_
          refine Wp.condS h rfl (fun h => ?_) (fun h => ?_)
          · refine Wp.skip ?_
            exact Joined1.mk x6 [] [] h (LS.to.mk (.r rfl rfl (.b rfl rfl .n)) (.b rfl rfl rfl .n) rfl)
          · refine let_e h fun x7 hx7 h => ?_
            refine Wp.region ?_
            refine GoT.q rfl (QEx.fldP 0 rfl Try.underlying37 rfl ts34 rfl (.tmp rfl) rfl) rfl (lt_b rfl) ?_
            refine GoT.qr rfl rfl (QEx.ldP1 (Shape.cells s) (iAV s.Kind) rfl ag34 (.tmp rfl) rfl) rfl (lt_b rfl) ?_
            refine GoT.q rfl (QEx.neqK rfl (.tmp rfl) .con) rfl (lt_b rfl) ?_
            refine GoT.q rfl (QEx.move rfl (.tmp rfl)) rfl (lt_b rfl) ?_
            refine GoT.g rfl rfl rfl (fun hg => QEx.fldP 1 rfl Try.underlying37 rfl ts3 rfl (.tmp rfl) rfl) rfl (lt_b rfl) ?_
            refine GoT.gr rfl rfl rfl rfl (fun hg => QEx.ldP1 (Shape.cells s) (iAV s.Radius) rfl ag3 (.opt (.tmp rfl) hg) rfl) rfl (lt_b rfl) ?_
            refine GoT.g rfl rfl rfl (fun hg => QEx.lssK rfl (.opt (.tmp rfl) hg) .con) rfl (lt_b rfl) ?_
            refine GoT.g rfl rfl rfl (fun hg => QEx.move rfl (.opt (.tmp rfl) hg)) rfl (lt_b rfl) ?_
            refine GoT.g2 rfl rfl rfl (fun hg => QEx.fldP 1 rfl Try.underlying37 rfl ts3 rfl (.tmp rfl) rfl) rfl (lt_b rfl) ?_
            refine GoT.gr2 rfl rfl rfl rfl (fun hg => QEx.ldP1 (Shape.cells s) (iAV s.Radius) rfl ag3 (.opt (.tmp rfl) hg) rfl) rfl (lt_b rfl) ?_
            refine GoT.g2 rfl rfl rfl (fun hg => QEx.gtrK rfl (.opt (.tmp rfl) hg) .con) rfl (lt_b rfl) ?_
            refine GoT.g rfl rfl rfl (fun hg => QEx.pickK rfl (.opt (.tmp rfl) hg) (fun hp => .con) (fun hp => (.opt (.tmp rfl) (and_i hg (beq_f hp))))) rfl (lt_b rfl) ?_
            refine GoT.q rfl (QEx.pickK rfl (.tmp rfl) (fun hp => (.opt (.tmp rfl) (beq_t hp))) (fun hp => .con)) rfl (lt_b rfl) ?_
            refine GoT.q rfl (QEx.eq (QEx.assign rfl (.tmp rfl)) (congrArg boolAV hx7)) rfl (lt_b rfl) ?_
            refine GoT.nil ?_
            exact Joined1.mk x7 [] [] h (LS.to.mk (.r rfl rfl (.b rfl rfl .n)) (.b rfl rfl rfl .n) rfl)
theorem body_ValidateFixture_ok {f : Fixture} {r : Int} (h : body_ValidateFixture f = some r) : FnR Try.prog 36 [(Fixture.av f)] (iAV r) := by
  refine FnR.intro' (fn := Try.f36) (N := 44) Try.func36 rfl rfl (Nat.le_of_ble_eq_true rfl) [1] ?_
  refine Wp.seq ?_
  refine Wp.region ?_
  refine GoT.a rfl (AEx.bx (Z := (Fixture.cells f)) rfl (.tmp rfl) rfl rfl rfl rfl) rfl (lt_b rfl) ?_
  refine GoT.q rfl (QEx.as (iAV 0) (QEx.assign rfl .con)) rfl (lt_b rfl) ?_
  refine GoT.nil ?_
  refine Wp.seq ?_
  refine bind_e h fun r1 hr1 h => ?_
  refine Wp.seq ?_
  refine Wp.region ?_
  refine GoT.q rfl (QEx.fldP 0 rfl Try.underlying39 rfl ts37 rfl (.tmp rfl) rfl) rfl (lt_b rfl) ?_
  refine GoT.qr rfl rfl (QEx.ldP (Fixture.cells f) (Shape.av f.Shape) rfl ag37 ts37 (.tmp rfl) (le_b rfl) rfl) rfl (lt_b rfl) ?_
  refine GoT.q rfl (QEx.cal0 (r := (iAV r1)) [(Shape.av f.Shape)] rfl Try.call61 (.cons (.tmp rfl) .nil) (shape_Validate_ok hr1) rfl rfl) rfl (lt_b rfl) ?_
  refine GoT.q rfl (QEx.assign rfl (.tmp rfl)) rfl (lt_b rfl) ?_
  refine GoT.nil ?_
  refine Wp.seq ?_
  refine Wp.region ?_
  refine GoT.q rfl (QEx.move rfl (.tmp rfl)) rfl (lt_b rfl) ?_
  refine GoT.q rfl (QEx.neqK rfl (.tmp rfl) .con) rfl (lt_b rfl) ?_
  refine GoT.nil ?_
  refine Wp.condS h rfl (fun h => ?_) (fun h => ?_)
  · refine Wp.seq ?_
    refine Wp.region ?_
    refine GoT.q rfl (QEx.move rfl (.tmp rfl)) rfl (lt_b rfl) ?_
    refine GoT.q rfl (QEx.assign rfl (.tmp rfl)) rfl (lt_b rfl) ?_
    refine GoT.nil ?_
    refine Wp.ret ?_
    cases h
    exact LeafQ.ret [] (by decide) (.cons (.tmp rfl) .nil) rfl
  · refine Wp.skip ?_
    refine let_e h fun r2 hr2 h => ?_
    refine let_e h fun r3 hr3 h => ?_
    refine let_e h fun r4 hr4 h => ?_
    refine let_e h fun x5 hx5 h => ?_
    refine Wp.seq ?_
    refine Wp.region ?_
    refine GoT.q rfl (QEx.fldP 3 rfl Try.underlying39 rfl ts3 rfl (.tmp rfl) rfl) rfl (lt_b rfl) ?_
    refine GoT.qr rfl rfl (QEx.ldP1 (Fixture.cells f) (iAV f.Density) rfl ag3 (.tmp rfl) rfl) rfl (lt_b rfl) ?_
    refine GoT.q rfl (QEx.cal0 (r := (boolAV r2)) [(iAV f.Density), (iAV 0), (iAV 262144)] rfl Try.call59 (.cons (.tmp rfl) (.cons .con (.cons .con .nil))) (body_within_ok hr2) rfl rfl) rfl (lt_b rfl) ?_
    refine GoT.q rfl (QEx.move rfl (.tmp rfl)) rfl (lt_b rfl) ?_
    refine GoT.g rfl rfl rfl (fun hg => QEx.fldP 4 rfl Try.underlying39 rfl ts3 rfl (.tmp rfl) rfl) rfl (lt_b rfl) ?_
    refine GoT.gr rfl rfl rfl rfl (fun hg => QEx.ldP1 (Fixture.cells f) (iAV f.Friction) rfl ag3 (.opt (.tmp rfl) hg) rfl) rfl (lt_b rfl) ?_
    refine GoT.g rfl rfl rfl (fun hg => QEx.cal0 (r := (boolAV r3)) [(iAV f.Friction), (iAV 0), (iAV 131072)] rfl Try.call59 (.cons (.opt (.tmp rfl) hg) (.cons .con (.cons .con .nil))) (body_within_ok hr3) rfl rfl) rfl (lt_b rfl) ?_
    refine GoT.q rfl (QEx.pickK rfl (.tmp rfl) (fun hp => (.opt (.tmp rfl) (beq_t hp))) (fun hp => .con)) rfl (lt_b rfl) ?_
    refine GoT.q rfl (QEx.move rfl (.tmp rfl)) rfl (lt_b rfl) ?_
    refine GoT.g rfl rfl rfl (fun hg => QEx.fldP 5 rfl Try.underlying39 rfl ts3 rfl (.tmp rfl) rfl) rfl (lt_b rfl) ?_
    refine GoT.gr rfl rfl rfl rfl (fun hg => QEx.ldP1 (Fixture.cells f) (iAV f.Restitution) rfl ag3 (.opt (.tmp rfl) hg) rfl) rfl (lt_b rfl) ?_
    refine GoT.g rfl rfl rfl (fun hg => QEx.cal0 (r := (boolAV r4)) [(iAV f.Restitution), (iAV 0), (iAV 65536)] rfl Try.call59 (.cons (.opt (.tmp rfl) hg) (.cons .con (.cons .con .nil))) (body_within_ok hr4) rfl rfl) rfl (lt_b rfl) ?_
    refine GoT.q rfl (QEx.pickK rfl (.tmp rfl) (fun hp => (.opt (.tmp rfl) (beq_t hp))) (fun hp => .con)) rfl (lt_b rfl) ?_
    refine GoT.q rfl (QEx.eq (QEx.assign rfl (.tmp rfl)) (congrArg boolAV hx5)) rfl (lt_b rfl) ?_
    refine GoT.nil ?_
    refine let_e h fun r6 hr6 h => ?_
    refine let_e h fun r7 hr7 h => ?_
    refine let_e h fun r8 hr8 h => ?_
    refine let_e h fun x9 hx9 h => ?_
    refine Wp.seq ?_
    refine Wp.region ?_
    refine GoT.q rfl (QEx.fldP 7 rfl Try.underlying39 rfl ts3 rfl (.tmp rfl) rfl) rfl (lt_b rfl) ?_
    refine GoT.qr rfl rfl (QEx.ldP1 (Fixture.cells f) (iAV f.Category) rfl ag3 (.tmp rfl) rfl) rfl (lt_b rfl) ?_
    refine GoT.q rfl (QEx.cal0 (r := (boolAV r6)) [(iAV f.Category), (iAV 0), (iAV 65535)] rfl Try.call59 (.cons (.tmp rfl) (.cons .con (.cons .con .nil))) (body_within_ok hr6) rfl rfl) rfl (lt_b rfl) ?_
    refine GoT.q rfl (QEx.move rfl (.tmp rfl)) rfl (lt_b rfl) ?_
    refine GoT.g rfl rfl rfl (fun hg => QEx.fldP 8 rfl Try.underlying39 rfl ts3 rfl (.tmp rfl) rfl) rfl (lt_b rfl) ?_
    refine GoT.gr rfl rfl rfl rfl (fun hg => QEx.ldP1 (Fixture.cells f) (iAV f.Mask) rfl ag3 (.opt (.tmp rfl) hg) rfl) rfl (lt_b rfl) ?_
    refine GoT.g rfl rfl rfl (fun hg => QEx.cal0 (r := (boolAV r7)) [(iAV f.Mask), (iAV 0), (iAV 65535)] rfl Try.call59 (.cons (.opt (.tmp rfl) hg) (.cons .con (.cons .con .nil))) (body_within_ok hr7) rfl rfl) rfl (lt_b rfl) ?_
    refine GoT.q rfl (QEx.pickK rfl (.tmp rfl) (fun hp => (.opt (.tmp rfl) (beq_t hp))) (fun hp => .con)) rfl (lt_b rfl) ?_
    refine GoT.q rfl (QEx.move rfl (.tmp rfl)) rfl (lt_b rfl) ?_
    refine GoT.g rfl rfl rfl (fun hg => QEx.fldP 9 rfl Try.underlying39 rfl ts3 rfl (.tmp rfl) rfl) rfl (lt_b rfl) ?_
    refine GoT.gr rfl rfl rfl rfl (fun hg => QEx.ldP1 (Fixture.cells f) (iAV f.Group) rfl ag3 (.opt (.tmp rfl) hg) rfl) rfl (lt_b rfl) ?_
    refine GoT.g rfl rfl rfl (fun hg => QEx.cal0 (r := (boolAV r8)) [(iAV f.Group), (iAV (-32)), (iAV 32)] rfl Try.call59 (.cons (.opt (.tmp rfl) hg) (.cons .con (.cons .con .nil))) (body_within_ok hr8) rfl rfl) rfl (lt_b rfl) ?_
    refine GoT.q rfl (QEx.pickK rfl (.tmp rfl) (fun hp => (.opt (.tmp rfl) (beq_t hp))) (fun hp => .con)) rfl (lt_b rfl) ?_
    refine GoT.q rfl (QEx.eq (QEx.assign rfl (.tmp rfl)) (congrArg boolAV hx9)) rfl (lt_b rfl) ?_
    refine GoT.nil ?_
    refine Wp.seq ?_
    refine Wp.seq ?_
    refine Wp.region ?_
    refine GoT.q rfl (QEx.move rfl (.tmp rfl)) rfl (lt_b rfl) ?_
    refine GoT.q rfl (QEx.notK rfl (.tmp rfl)) rfl (lt_b rfl) ?_
    refine GoT.q rfl (QEx.move rfl (.tmp rfl)) rfl (lt_b rfl) ?_
    refine GoT.g rfl rfl rfl (fun hg => QEx.move rfl (.tmp rfl)) rfl (lt_b rfl) ?_
    refine GoT.g rfl rfl rfl (fun hg => QEx.notK rfl (.opt (.tmp rfl) hg)) rfl (lt_b rfl) ?_
    refine GoT.q rfl (QEx.pickK rfl (.tmp rfl) (fun hp => .con) (fun hp => (.opt (.tmp rfl) (beq_f hp)))) rfl (lt_b rfl) ?_
    refine GoT.nil ?_
    refine Wp.condS h rfl (fun h => ?_) (fun h => ?_)
    · refine Wp.seq ?_
      refine Wp.region ?_
      refine GoT.q rfl (QEx.as (iAV 6) (QEx.assign rfl .con)) rfl (lt_b rfl) ?_
      refine GoT.nil ?_
      refine Wp.ret ?_
      cases h
      exact LeafQ.ret [] (by decide) (.cons (.tmp rfl) .nil) rfl
    · refine Wp.skip ?_
      refine Wp.seq ?_
      refine Wp.region ?_
      refine GoT.q rfl (QEx.as (iAV 0) (QEx.assign rfl .con)) rfl (lt_b rfl) ?_
      refine GoT.nil ?_
      refine Wp.ret ?_
      cases h
      exact LeafQ.ret [] (by decide) (.cons (.tmp rfl) .nil) rfl
theorem body_moving_ok {b : Body} {r : Bool} (h : body_moving b = r) : FnR Try.prog 62 [(Body.av b)] (boolAV r) := by
  refine FnR.intro' (fn := Try.f62) (N := 12) Try.func62 rfl rfl (Nat.le_of_ble_eq_true rfl) [1] ?_
  refine Wp.seq ?_
  refine Wp.region ?_
  refine GoT.a rfl (AEx.bx (Z := (Body.cells b)) rfl (.tmp rfl) rfl rfl rfl rfl) rfl (lt_b rfl) ?_
  refine GoT.q rfl (QEx.as (boolAV false) (QEx.assign rfl .con)) rfl (lt_b rfl) ?_
  refine GoT.nil ?_
  refine let_e h fun x1 hx1 h => ?_
  refine Wp.seq ?_
  refine Wp.region ?_
  refine GoT.q rfl (QEx.fldP 5 rfl Try.underlying29 rfl ts24 rfl (.tmp rfl) rfl) rfl (lt_b rfl) ?_
  refine GoT.qr rfl rfl (QEx.ldP (Body.cells b) (Vec.av b.Velocity) rfl ag24 ts24 (.tmp rfl) (le_b rfl) rfl) rfl (lt_b rfl) ?_
  refine GoT.q rfl (QEx.as (Vec.av (⟨0, 0⟩ : Vec)) (QEx.buildZ rfl Try.underlying24 zt24 (by kernel_rfl) .nil)) rfl (lt_b rfl) ?_
  refine GoT.q rfl (QEx.neqA rfl eq24 (.tmp rfl) (.tmp rfl)) rfl (lt_b rfl) ?_
  refine GoT.q rfl (QEx.move rfl (.tmp rfl)) rfl (lt_b rfl) ?_
  refine GoT.g rfl rfl rfl (fun hg => QEx.fldP 7 rfl Try.underlying29 rfl ts3 rfl (.tmp rfl) rfl) rfl (lt_b rfl) ?_
  refine GoT.gr rfl rfl rfl rfl (fun hg => QEx.ldP1 (Body.cells b) (iAV b.AngularVelocity) rfl ag3 (.opt (.tmp rfl) hg) rfl) rfl (lt_b rfl) ?_
  refine GoT.g rfl rfl rfl (fun hg => QEx.neqK rfl (.opt (.tmp rfl) hg) .con) rfl (lt_b rfl) ?_
  refine GoT.q rfl (QEx.pickK rfl (.tmp rfl) (fun hp => .con) (fun hp => (.opt (.tmp rfl) (beq_f hp)))) rfl (lt_b rfl) ?_
  refine GoT.q rfl (QEx.eq (QEx.assign rfl (.tmp rfl)) (congrArg boolAV hx1)) rfl (lt_b rfl) ?_
  refine GoT.nil ?_
  refine Wp.ret ?_
  cases h
  exact LeafQ.ret [] (by decide) (.cons (.tmp rfl) .nil) rfl
theorem body_consistent_ok {b : Body} {r : Bool} (h : body_consistent b = r) : FnR Try.prog 37 [(Body.av b)] (boolAV r) := by
  refine FnR.intro' (fn := Try.f37) (N := 44) Try.func37 rfl rfl (Nat.le_of_ble_eq_true rfl) [1] ?_
  refine Wp.seq ?_
  refine Wp.region ?_
  refine GoT.a rfl (AEx.bx (Z := (Body.cells b)) rfl (.tmp rfl) rfl rfl rfl rfl) rfl (lt_b rfl) ?_
  refine GoT.q rfl (QEx.as (boolAV false) (QEx.assign rfl .con)) rfl (lt_b rfl) ?_
  refine GoT.nil ?_
  refine let_e h fun x1 hx1 h => ?_
  refine Wp.seq ?_
  refine Wp.region ?_
  refine GoT.q rfl (QEx.fldP 8 rfl Try.underlying29 rfl ts24 rfl (.tmp rfl) rfl) rfl (lt_b rfl) ?_
  refine GoT.qr rfl rfl (QEx.ldP (Body.cells b) (Vec.av b.Force) rfl ag24 ts24 (.tmp rfl) (le_b rfl) rfl) rfl (lt_b rfl) ?_
  refine GoT.q rfl (QEx.as (Vec.av (⟨0, 0⟩ : Vec)) (QEx.buildZ rfl Try.underlying24 zt24 (by kernel_rfl) .nil)) rfl (lt_b rfl) ?_
  refine GoT.q rfl (QEx.neqA rfl eq24 (.tmp rfl) (.tmp rfl)) rfl (lt_b rfl) ?_
  refine GoT.q rfl (QEx.move rfl (.tmp rfl)) rfl (lt_b rfl) ?_
  refine GoT.g rfl rfl rfl (fun hg => QEx.fldP 10 rfl Try.underlying29 rfl ts3 rfl (.tmp rfl) rfl) rfl (lt_b rfl) ?_
  refine GoT.gr rfl rfl rfl rfl (fun hg => QEx.ldP1 (Body.cells b) (iAV b.Torque) rfl ag3 (.opt (.tmp rfl) hg) rfl) rfl (lt_b rfl) ?_
  refine GoT.g rfl rfl rfl (fun hg => QEx.neqK rfl (.opt (.tmp rfl) hg) .con) rfl (lt_b rfl) ?_
  refine GoT.q rfl (QEx.pickK rfl (.tmp rfl) (fun hp => .con) (fun hp => (.opt (.tmp rfl) (beq_f hp)))) rfl (lt_b rfl) ?_
  refine GoT.q rfl (QEx.eq (QEx.assign rfl (.tmp rfl)) (congrArg boolAV hx1)) rfl (lt_b rfl) ?_
  refine GoT.nil ?_
  refine Wp.seq ?_
  refine Wp.block ?_
  refine let_e h fun r2 hr2 h => ?_
  refine let_e h fun x3 hx3 h => ?_
  refine Wp.seq ?_
  refine Wp.region ?_
  refine GoT.q rfl (QEx.fldP 1 rfl Try.underlying29 rfl ts22 rfl (.tmp rfl) rfl) rfl (lt_b rfl) ?_
  refine GoT.qr rfl rfl (QEx.ldP1 (Body.cells b) (iAV b.Kind) rfl ag22 (.tmp rfl) rfl) rfl (lt_b rfl) ?_
  refine GoT.q rfl (QEx.eqlK rfl (.tmp rfl) .con) rfl (lt_b rfl) ?_
  refine GoT.q rfl (QEx.move rfl (.tmp rfl)) rfl (lt_b rfl) ?_
  refine GoT.gr rfl rfl rfl rfl (fun hg => QEx.ldP (Body.cells b) (Body.av b) rfl ag29 ts29 (.tmp rfl) (le_b rfl) rfl) rfl (lt_b rfl) ?_
  refine GoT.g rfl rfl rfl (fun hg => QEx.cal0 (r := (boolAV r2)) [(Body.av b)] rfl Try.call62 (.cons (.opt (.tmp rfl) hg) .nil) (body_moving_ok hr2) rfl rfl) rfl (lt_b rfl) ?_
  refine GoT.g rfl rfl rfl (fun hg => QEx.move rfl (.opt (.tmp rfl) hg)) rfl (lt_b rfl) ?_
  refine GoT.g2 rfl rfl rfl (fun hg => QEx.move rfl (.tmp rfl)) rfl (lt_b rfl) ?_
  refine GoT.g rfl rfl rfl (fun hg => QEx.pickK rfl (.opt (.tmp rfl) hg) (fun hp => .con) (fun hp => (.opt (.tmp rfl) (and_i hg (beq_f hp))))) rfl (lt_b rfl) ?_
  refine GoT.q rfl (QEx.pickK rfl (.tmp rfl) (fun hp => (.opt (.tmp rfl) (beq_t hp))) (fun hp => .con)) rfl (lt_b rfl) ?_
  refine GoT.q rfl (QEx.eq (QEx.assign rfl (.tmp rfl)) (congrArg boolAV hx3)) rfl (lt_b rfl) ?_
  refine GoT.nil ?_
  refine Wp.condS h rfl (fun h => ?_) (fun h => ?_)
  · refine Wp.seq ?_
    refine Wp.region ?_
    refine GoT.q rfl (QEx.as (boolAV false) (QEx.assign rfl .con)) rfl (lt_b rfl) ?_
    refine GoT.nil ?_
    refine Wp.ret ?_
    cases h
    exact LeafQ.ret [] (by decide) (.cons (.tmp rfl) .nil) rfl
  · refine let_e h fun x4 hx4 h => ?_
    refine Wp.seq ?_
    refine Wp.region ?_
    refine GoT.q rfl (QEx.fldP 1 rfl Try.underlying29 rfl ts22 rfl (.tmp rfl) rfl) rfl (lt_b rfl) ?_
    refine GoT.qr rfl rfl (QEx.ldP1 (Body.cells b) (iAV b.Kind) rfl ag22 (.tmp rfl) rfl) rfl (lt_b rfl) ?_
    refine GoT.q rfl (QEx.neqK rfl (.tmp rfl) .con) rfl (lt_b rfl) ?_
    refine GoT.q rfl (QEx.move rfl (.tmp rfl)) rfl (lt_b rfl) ?_
    refine GoT.g rfl rfl rfl (fun hg => QEx.fldP 17 rfl Try.underlying29 rfl ts4 rfl (.tmp rfl) rfl) rfl (lt_b rfl) ?_
    refine GoT.gr rfl rfl rfl rfl (fun hg => QEx.ldP1 (Body.cells b) (boolAV b.Asleep) rfl ag4 (.opt (.tmp rfl) hg) rfl) rfl (lt_b rfl) ?_
    refine GoT.g rfl rfl rfl (fun hg => QEx.move rfl (.opt (.tmp rfl) hg)) rfl (lt_b rfl) ?_
    refine GoT.g2 rfl rfl rfl (fun hg => QEx.fldP 14 rfl Try.underlying29 rfl ts4 rfl (.tmp rfl) rfl) rfl (lt_b rfl) ?_
    refine GoT.gr2 rfl rfl rfl rfl (fun hg => QEx.ldP1 (Body.cells b) (boolAV b.Bullet) rfl ag4 (.opt (.tmp rfl) hg) rfl) rfl (lt_b rfl) ?_
    refine GoT.g rfl rfl rfl (fun hg => QEx.pickK rfl (.opt (.tmp rfl) hg) (fun hp => .con) (fun hp => (.opt (.tmp rfl) (and_i hg (beq_f hp))))) rfl (lt_b rfl) ?_
    refine GoT.q rfl (QEx.pickK rfl (.tmp rfl) (fun hp => (.opt (.tmp rfl) (beq_t hp))) (fun hp => .con)) rfl (lt_b rfl) ?_
    refine GoT.q rfl (QEx.eq (QEx.assign rfl (.tmp rfl)) (congrArg boolAV hx4)) rfl (lt_b rfl) ?_
    refine GoT.nil ?_
    refine Wp.condS h rfl (fun h => ?_) (fun h => ?_)
    · refine Wp.seq ?_
      refine Wp.region ?_
      refine GoT.q rfl (QEx.as (boolAV false) (QEx.assign rfl .con)) rfl (lt_b rfl) ?_
      refine GoT.nil ?_
      refine Wp.ret ?_
      cases h
      exact LeafQ.ret [] (by decide) (.cons (.tmp rfl) .nil) rfl
    · refine Wp.skip ?_
      refine let_e h fun r5 hr5 h => ?_
      refine let_e h fun x6 hx6 h => ?_
      refine Wp.seq ?_
      refine Wp.region ?_
      refine GoT.q rfl (QEx.fldP 17 rfl Try.underlying29 rfl ts4 rfl (.tmp rfl) rfl) rfl (lt_b rfl) ?_
      refine GoT.qr rfl rfl (QEx.ldP1 (Body.cells b) (boolAV b.Asleep) rfl ag4 (.tmp rfl) rfl) rfl (lt_b rfl) ?_
      refine GoT.q rfl (QEx.notK rfl (.tmp rfl)) rfl (lt_b rfl) ?_
      refine GoT.q rfl (QEx.move rfl (.tmp rfl)) rfl (lt_b rfl) ?_
      refine GoT.gr rfl rfl rfl rfl (fun hg => QEx.ldP (Body.cells b) (Body.av b) rfl ag29 ts29 (.tmp rfl) (le_b rfl) rfl) rfl (lt_b rfl) ?_
      refine GoT.g rfl rfl rfl (fun hg => QEx.cal0 (r := (boolAV r5)) [(Body.av b)] rfl Try.call62 (.cons (.opt (.tmp rfl) hg) .nil) (body_moving_ok hr5) rfl rfl) rfl (lt_b rfl) ?_
      refine GoT.g rfl rfl rfl (fun hg => QEx.notK rfl (.opt (.tmp rfl) hg)) rfl (lt_b rfl) ?_
      refine GoT.q rfl (QEx.pickK rfl (.tmp rfl) (fun hp => .con) (fun hp => (.opt (.tmp rfl) (beq_f hp)))) rfl (lt_b rfl) ?_
      refine GoT.q rfl (QEx.eq (QEx.assign rfl (.tmp rfl)) (congrArg boolAV hx6)) rfl (lt_b rfl) ?_
      refine GoT.nil ?_
      refine Wp.ret ?_
      cases h
      exact LeafQ.ret [] (by decide) (.cons (.tmp rfl) .nil) rfl
end GoForm
