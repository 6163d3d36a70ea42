/- The program's functions compute their plain forms: printed by gen2.py. No conditions. -/
import Derived.Test.YtblkmlpjhpgkjaaGreatCxV
import Derived.Test.YtblkmlpjhpgkjaaGreatF23X
import Derived.Test.YtblkmlpjhpgkjaaGreatProg
set_option linter.all false
set_option maxRecDepth 100000
open Go Go.Cx Go.Proofs Go.RowKit
namespace GoForm
abbrev uT3 := Tryz.underlying3
abbrev uT4 := Tryz.underlying4
abbrev uT23 := Tryz.underlying23
abbrev uT24 := Tryz.underlying24
abbrev uT26 := Tryz.underlying26
abbrev uT27 := Tryz.underlying27
abbrev uT29 := Tryz.underlying29
abbrev uT31 := Tryz.underlying31
abbrev uT33 := Tryz.underlying33
abbrev uT35 := Tryz.underlying35
abbrev uT45 := Tryz.underlying45
abbrev uT49 := Tryz.underlying49
abbrev uT53 := Tryz.underlying53
abbrev uT95 := Tryz.underlying95
abbrev uT100 := Tryz.underlying100
abbrev uT109 := Tryz.underlying109
abbrev uT123 := Tryz.underlying123
abbrev uT125 := Tryz.underlying125
abbrev uT131 := Tryz.underlying131
abbrev uT132 := Tryz.underlying132
theorem mixed : Tryz.prog.follows .mixedOrders = true := by kernel_rfl
def Vec.cells (x : Vec) : List AV := [(iAV x.X), (iAV x.Y)]
def Vec.av (x : Vec) : AV := .agg (Vec.cells x)
def Transform.cells (x : Transform) : List AV := [(iAV x.Position.X), (iAV x.Position.Y), (iAV x.Angle)]
def Transform.av (x : Transform) : AV := .agg (Transform.cells x)
def Shape.cells (x : Shape) : List AV := [(iAV x.Kind), (iAV x.Radius), ((slAV 2 Vec.av) x.Vertices)]
def Shape.av (x : Shape) : AV := .agg (Shape.cells x)
def Fixture.cells (x : Fixture) : List AV := [(iAV x.Shape.Kind), (iAV x.Shape.Radius), ((slAV 2 Vec.av) x.Shape.Vertices), (iAV x.Density), (iAV x.Friction), (iAV x.Restitution), (boolAV x.Sensor), (iAV x.Category), (iAV x.Mask), (iAV x.Group)]
def Fixture.av (x : Fixture) : AV := .agg (Fixture.cells x)
def Body.cells (x : Body) : List AV := [(iAV x.ID), (iAV x.Kind), (iAV x.Transform.Position.X), (iAV x.Transform.Position.Y), (iAV x.Transform.Angle), (iAV x.Velocity.X), (iAV x.Velocity.Y), (iAV x.AngularVelocity), (iAV x.Force.X), (iAV x.Force.Y), (iAV x.Torque), (iAV x.LinearDamping), (iAV x.AngularDamping), (iAV x.GravityScale), (boolAV x.Bullet), (boolAV x.FixedRotation), (boolAV x.NoSleep), (boolAV x.Asleep), (iAV x.IdleSteps), ((slAV 10 Fixture.av) x.Fixtures)]
def Body.av (x : Body) : AV := .agg (Body.cells x)
def polygon_triangle.cells (x : polygon_triangle) : List AV := [(iAV x.e.X), (iAV x.e.Y), (iAV x.f.X), (iAV x.f.Y), (iAV x.cross)]
def polygon_triangle.av (x : polygon_triangle) : AV := .agg (polygon_triangle.cells x)
def MassData.cells (x : MassData) : List AV := [(iAV x.Mass), (iAV x.Center.X), (iAV x.Center.Y), (iAV x.Inertia)]
def MassData.av (x : MassData) : AV := .agg (MassData.cells x)
def Rot.cells (x : Rot) : List AV := [(iAV x.Cos), (iAV x.Sin)]
def Rot.av (x : Rot) : AV := .agg (Rot.cells x)
def SolverBody.cells (x : SolverBody) : List AV := [(iAV x.Velocity.X), (iAV x.Velocity.Y), (iAV x.AngularVelocity), (iAV x.InvMass), (iAV x.InvInertia)]
def SolverBody.av (x : SolverBody) : AV := .agg (SolverBody.cells x)
def AABB.cells (x : AABB) : List AV := [(iAV x.Min.X), (iAV x.Min.Y), (iAV x.Max.X), (iAV x.Max.Y)]
def AABB.av (x : AABB) : AV := .agg (AABB.cells x)
def segment_candidate.cells (x : segment_candidate) : List AV := [(iAV x.x.X), (iAV x.x.Y), (iAV x.y.X), (iAV x.y.Y)]
def segment_candidate.av (x : segment_candidate) : AV := .agg (segment_candidate.cells x)
theorem ts27 : tSz Tryz.prog 27 = some 1 := by kernel_rfl
theorem ag27 : tAg Tryz.prog 27 = some false := by kernel_rfl
theorem et27 : ElemT Tryz.prog 27 35 10 96 := ⟨by kernel_rfl, ⟨Tryz.t35, (.agg #[(.int .i64 0), (.int .i64 0), (.slice none 0 0), (.int .i64 0), (.int .i64 0), (.int .i64 0), (.bool false), (.int .i64 0), (.int .i64 0), (.int .i64 0)]), by kernel_rfl, by kernel_rfl, by kernel_rfl, by kernel_rfl, by kernel_rfl, by kernel_rfl⟩, by decide⟩
theorem ts33 : tSz Tryz.prog 33 = some 3 := by kernel_rfl
theorem ts31 : tSz Tryz.prog 31 = some 1 := by kernel_rfl
theorem ag31 : tAg Tryz.prog 31 = some false := by kernel_rfl
theorem zt29 : ZeroT Tryz.prog 29 (Body.cells Body.zero) := ⟨[(.int .i64 0), (.int .i64 0), (.int .i64 0), (.int .i64 0), (.int .i64 0), (.int .i64 0), (.int .i64 0), (.int .i64 0), (.int .i64 0), (.int .i64 0), (.int .i64 0), (.int .i64 0), (.int .i64 0), (.int .i64 0), (.bool false), (.bool false), (.bool false), (.bool false), (.int .i64 0), (.slice none 0 0)], by kernel_rfl, (.v (.v (.v (.v (.v (.v (.v (.v (.v (.v (.v (.v (.v (.v (.v (.v (.v (.v (.v (.s .nil)))))))))))))))))))), by kernel_rfl⟩
theorem ts3 : tSz Tryz.prog 3 = some 1 := by kernel_rfl
theorem fd24 : ∃ fs, Tryz.prog.underlying 24 = some (.struct fs) ∧ fs.toList.all (fun f => (tSz Tryz.prog f.type).isSome) = true := ⟨_, uT24, by kernel_rfl⟩
theorem zt24 : ZeroT Tryz.prog 24 (Vec.cells Vec.zero) := ⟨[(.int .i64 0), (.int .i64 0)], by kernel_rfl, (.v (.v .nil)), by kernel_rfl⟩
theorem ts24 : tSz Tryz.prog 24 = some 2 := by kernel_rfl
theorem fd26 : ∃ fs, Tryz.prog.underlying 26 = some (.struct fs) ∧ fs.toList.all (fun f => (tSz Tryz.prog f.type).isSome) = true := ⟨_, uT26, by kernel_rfl⟩
theorem zt26 : ZeroT Tryz.prog 26 (Transform.cells Transform.zero) := ⟨[(.int .i64 0), (.int .i64 0), (.int .i64 0)], by kernel_rfl, (.v (.v (.v .nil))), by kernel_rfl⟩
theorem et31 : ElemT Tryz.prog 31 24 2 16 := ⟨by kernel_rfl, ⟨Tryz.t24, (.agg #[(.int .i64 0), (.int .i64 0)]), by kernel_rfl, by kernel_rfl, by kernel_rfl, by kernel_rfl, by kernel_rfl, by kernel_rfl⟩, by decide⟩
theorem ts30 : tSz Tryz.prog 30 = some 1 := by kernel_rfl
theorem fd33 : ∃ fs, Tryz.prog.underlying 33 = some (.struct fs) ∧ fs.toList.all (fun f => (tSz Tryz.prog f.type).isSome) = true := ⟨_, uT33, by kernel_rfl⟩
theorem zt33 : ZeroT Tryz.prog 33 (Shape.cells Shape.zero) := ⟨[(.int .i64 0), (.int .i64 0), (.slice none 0 0)], by kernel_rfl, (.v (.v (.s .nil))), by kernel_rfl⟩
theorem ts4 : tSz Tryz.prog 4 = some 1 := by kernel_rfl
theorem fd35 : ∃ fs, Tryz.prog.underlying 35 = some (.struct fs) ∧ fs.toList.all (fun f => (tSz Tryz.prog f.type).isSome) = true := ⟨_, uT35, by kernel_rfl⟩
theorem zt35 : ZeroT Tryz.prog 35 (Fixture.cells Fixture.zero) := ⟨[(.int .i64 0), (.int .i64 0), (.slice none 0 0), (.int .i64 0), (.int .i64 0), (.int .i64 0), (.bool false), (.int .i64 0), (.int .i64 0), (.int .i64 0)], by kernel_rfl, (.v (.v (.s (.v (.v (.v (.v (.v (.v (.v .nil)))))))))), by kernel_rfl⟩
theorem ts22 : tSz Tryz.prog 22 = some 1 := by kernel_rfl
theorem ts26 : tSz Tryz.prog 26 = some 3 := by kernel_rfl
theorem fd29 : ∃ fs, Tryz.prog.underlying 29 = some (.struct fs) ∧ fs.toList.all (fun f => (tSz Tryz.prog f.type).isSome) = true := ⟨_, uT29, by kernel_rfl⟩
theorem ts29 : tSz Tryz.prog 29 = some 20 := by kernel_rfl
theorem ag29 : tAg Tryz.prog 29 = some true := by kernel_rfl
theorem ag30 : tAg Tryz.prog 30 = some false := by kernel_rfl
theorem ag24 : tAg Tryz.prog 24 = some true := by kernel_rfl
theorem ag3 : tAg Tryz.prog 3 = some false := by kernel_rfl
theorem fd125 : ∃ fs, Tryz.prog.underlying 125 = some (.struct fs) ∧ fs.toList.all (fun f => (tSz Tryz.prog f.type).isSome) = true := ⟨_, uT125, by kernel_rfl⟩
theorem zt125 : ZeroT Tryz.prog 125 (polygon_triangle.cells polygon_triangle.zero) := ⟨[(.int .i64 0), (.int .i64 0), (.int .i64 0), (.int .i64 0), (.int .i64 0)], by kernel_rfl, (.v (.v (.v (.v (.v .nil))))), by kernel_rfl⟩
theorem et109 : ElemT Tryz.prog 109 125 5 40 := ⟨by kernel_rfl, ⟨Tryz.t125, (.agg #[(.int .i64 0), (.int .i64 0), (.int .i64 0), (.int .i64 0), (.int .i64 0)]), by kernel_rfl, by kernel_rfl, by kernel_rfl, by kernel_rfl, by kernel_rfl, by kernel_rfl⟩, by decide⟩
theorem ag33 : tAg Tryz.prog 33 = some true := by kernel_rfl
theorem zt49 : ZeroT Tryz.prog 49 (MassData.cells MassData.zero) := ⟨[(.int .i64 0), (.int .i64 0), (.int .i64 0), (.int .i64 0)], by kernel_rfl, (.v (.v (.v (.v .nil)))), by kernel_rfl⟩
theorem fd49 : ∃ fs, Tryz.prog.underlying 49 = some (.struct fs) ∧ fs.toList.all (fun f => (tSz Tryz.prog f.type).isSome) = true := ⟨_, uT49, by kernel_rfl⟩
theorem ts49 : tSz Tryz.prog 49 = some 4 := by kernel_rfl
theorem ag49 : tAg Tryz.prog 49 = some true := by kernel_rfl
theorem ag125 : tAg Tryz.prog 125 = some true := by kernel_rfl
theorem ts125 : tSz Tryz.prog 125 = some 5 := by kernel_rfl
theorem et95 : ElemT Tryz.prog 95 49 4 32 := ⟨by kernel_rfl, ⟨Tryz.t49, (.agg #[(.int .i64 0), (.int .i64 0), (.int .i64 0), (.int .i64 0)]), by kernel_rfl, by kernel_rfl, by kernel_rfl, by kernel_rfl, by kernel_rfl, by kernel_rfl⟩, by decide⟩
theorem ag35 : tAg Tryz.prog 35 = some true := by kernel_rfl
theorem ts35 : tSz Tryz.prog 35 = some 10 := by kernel_rfl
theorem ag4 : tAg Tryz.prog 4 = some false := by kernel_rfl
theorem zt100 : ZeroT Tryz.prog 100 (Rot.cells Rot.zero) := ⟨[(.int .i64 0), (.int .i64 0)], by kernel_rfl, (.v (.v .nil)), by kernel_rfl⟩
theorem fd100 : ∃ fs, Tryz.prog.underlying 100 = some (.struct fs) ∧ fs.toList.all (fun f => (tSz Tryz.prog f.type).isSome) = true := ⟨_, uT100, by kernel_rfl⟩
theorem ts100 : tSz Tryz.prog 100 = some 2 := by kernel_rfl
theorem ag100 : tAg Tryz.prog 100 = some true := by kernel_rfl
theorem ag26 : tAg Tryz.prog 26 = some true := by kernel_rfl
theorem zt53 : ZeroT Tryz.prog 53 (SolverBody.cells SolverBody.zero) := ⟨[(.int .i64 0), (.int .i64 0), (.int .i64 0), (.int .i64 0), (.int .i64 0)], by kernel_rfl, (.v (.v (.v (.v (.v .nil))))), by kernel_rfl⟩
theorem ag22 : tAg Tryz.prog 22 = some false := by kernel_rfl
theorem fd53 : ∃ fs, Tryz.prog.underlying 53 = some (.struct fs) ∧ fs.toList.all (fun f => (tSz Tryz.prog f.type).isSome) = true := ⟨_, uT53, by kernel_rfl⟩
theorem ts53 : tSz Tryz.prog 53 = some 5 := by kernel_rfl
theorem ag53 : tAg Tryz.prog 53 = some true := by kernel_rfl
theorem zt45 : ZeroT Tryz.prog 45 (AABB.cells AABB.zero) := ⟨[(.int .i64 0), (.int .i64 0), (.int .i64 0), (.int .i64 0)], by kernel_rfl, (.v (.v (.v (.v .nil)))), by kernel_rfl⟩
theorem fd45 : ∃ fs, Tryz.prog.underlying 45 = some (.struct fs) ∧ fs.toList.all (fun f => (tSz Tryz.prog f.type).isSome) = true := ⟨_, uT45, by kernel_rfl⟩
theorem ts45 : tSz Tryz.prog 45 = some 4 := by kernel_rfl
theorem ag45 : tAg Tryz.prog 45 = some true := by kernel_rfl
theorem eq24 : EqT Tryz.prog 24 Vec.av Vec.beq := by
  refine ⟨by kernel_rfl, fun x => [.int .i64 x.X, .int .i64 x.Y], fun x => rfl, fun w x y => ?_⟩
  rw [run_equalIn_struct w 9999 24 _ _ (by kernel_rfl) (by kernel_rfl)]
  simp [Program.fieldsOf, Op.eqFields, go_sem, if_ok, Vec.beq, uT3, uT24] <;> grind
theorem fd131 : ∃ fs, Tryz.prog.underlying 131 = some (.struct fs) ∧ fs.toList.all (fun f => (tSz Tryz.prog f.type).isSome) = true := ⟨_, uT131, by kernel_rfl⟩
theorem zt131 : ZeroT Tryz.prog 131 (segment_candidate.cells segment_candidate.zero) := ⟨[(.int .i64 0), (.int .i64 0), (.int .i64 0), (.int .i64 0)], by kernel_rfl, (.v (.v (.v (.v .nil)))), by kernel_rfl⟩
theorem ts131 : tSz Tryz.prog 131 = some 4 := by kernel_rfl
theorem et132 : ElemT Tryz.prog 132 131 4 32 := ⟨by kernel_rfl, ⟨Tryz.t131, (.agg #[(.int .i64 0), (.int .i64 0), (.int .i64 0), (.int .i64 0)]), by kernel_rfl, by kernel_rfl, by kernel_rfl, by kernel_rfl, by kernel_rfl, by kernel_rfl⟩, by decide⟩
theorem ag131 : tAg Tryz.prog 131 = some true := by kernel_rfl
theorem sh24 : Tryz.prog.stoodInHeld 24 = false := by kernel_rfl
theorem uf24 : Tryz.prog.underlying 24 = some (.struct (Tryz.prog.fieldsOf 24)) := by kernel_rfl
theorem eq26 : EqT Tryz.prog 26 Transform.av Transform.beq := by
  refine ⟨by kernel_rfl, fun x => [.int .i64 x.Position.X, .int .i64 x.Position.Y, .int .i64 x.Angle], fun x => rfl, fun w x y => ?_⟩
  rw [run_equalIn_struct w 9999 26 _ _ (by kernel_rfl) (by kernel_rfl)]
  have q0 := fun (d : Nat) (w : World) (xs ys : Array Value) => run_equalIn_struct w d 24 xs ys uf24 sh24
  simp [Program.fieldsOf, Op.eqFields, go_sem, if_ok, Transform.beq, Vec.beq, uT3, uT23, uT24, uT26, q0] <;> grind
theorem eq45 : EqT Tryz.prog 45 AABB.av AABB.beq := by
  refine ⟨by kernel_rfl, fun x => [.int .i64 x.Min.X, .int .i64 x.Min.Y, .int .i64 x.Max.X, .int .i64 x.Max.Y], fun x => rfl, fun w x y => ?_⟩
  rw [run_equalIn_struct w 9999 45 _ _ (by kernel_rfl) (by kernel_rfl)]
  have q0 := fun (d : Nat) (w : World) (xs ys : Array Value) => run_equalIn_struct w d 24 xs ys uf24 sh24
  simp [Program.fieldsOf, Op.eqFields, go_sem, if_ok, AABB.beq, Vec.beq, uT3, uT23, uT24, uT45, q0] <;> grind
theorem eq49 : EqT Tryz.prog 49 MassData.av MassData.beq := by
  refine ⟨by kernel_rfl, fun x => [.int .i64 x.Mass, .int .i64 x.Center.X, .int .i64 x.Center.Y, .int .i64 x.Inertia], fun x => rfl, fun w x y => ?_⟩
  rw [run_equalIn_struct w 9999 49 _ _ (by kernel_rfl) (by kernel_rfl)]
  have q0 := fun (d : Nat) (w : World) (xs ys : Array Value) => run_equalIn_struct w d 24 xs ys uf24 sh24
  simp [Program.fieldsOf, Op.eqFields, go_sem, if_ok, MassData.beq, Vec.beq, uT3, uT23, uT24, uT49, q0] <;> grind
theorem eq53 : EqT Tryz.prog 53 SolverBody.av SolverBody.beq := by
  refine ⟨by kernel_rfl, fun x => [.int .i64 x.Velocity.X, .int .i64 x.Velocity.Y, .int .i64 x.AngularVelocity, .int .i64 x.InvMass, .int .i64 x.InvInertia], fun x => rfl, fun w x y => ?_⟩
  rw [run_equalIn_struct w 9999 53 _ _ (by kernel_rfl) (by kernel_rfl)]
  have q0 := fun (d : Nat) (w : World) (xs ys : Array Value) => run_equalIn_struct w d 24 xs ys uf24 sh24
  simp [Program.fieldsOf, Op.eqFields, go_sem, if_ok, SolverBody.beq, Vec.beq, uT3, uT23, uT24, uT53, q0] <;> grind
theorem ref23_Small_ok {b : Body} {r : Bool} (h : ref23_Small b = some r) : FnR Tryz.prog 6 [(Body.av b)] (boolAV r) := by
  refine FnR.intro' (fn := Tryz.f6) (N := 28) Tryz.func6 rfl rfl (Nat.le_of_ble_eq_true rfl) [1] ?_
  refine Wp.seq ?_
  refine Wp.region ?_
  refine GoT.a rfl (AEx.bx (Z := (Body.cells b)) rfl (.tmp rfl) rfl rfl rfl rfl) rfl (lt_b rfl) ?_
  refine GoT.q rfl (QEx.as (boolAV false) (QEx.assign rfl .con)) rfl (lt_b rfl) ?_
  refine GoT.nil ?_
  refine Wp.join0 (⟨[(1, (.ptr 1 0))], [(1, .cells (Body.cells b))], []⟩) ((ref23_Small_j2 b) = some r) ?_ ?_
  · intro h
    refine let_e h fun x5 hx5 h => ?_
    refine Wp.seq ?_
    refine Wp.region ?_
    refine GoT.q rfl (QEx.fldP 19 rfl uT29 rfl ts27 rfl (.tmp rfl) rfl) rfl (lt_b rfl) ?_
    refine GoT.qr rfl rfl (QEx.ldP1 (Body.cells b) ((slAV 10 Fixture.av) b.Fixtures) rfl ag27 (.tmp rfl) rfl) rfl (lt_b rfl) ?_
    refine GoT.q rfl (QEx.lenL rfl ⟨_, uT27⟩ (.tmp rfl)) rfl (lt_b rfl) ?_
    refine GoT.q rfl (QEx.leqK rfl (.tmp rfl) .con) rfl (lt_b rfl) ?_
    refine GoT.q rfl (QEx.eq (QEx.assign rfl (.tmp rfl)) (congrArg boolAV hx5)) rfl (lt_b rfl) ?_
    refine GoT.nil ?_
    refine Wp.ret ?_
    cases h
    exact LeafQ.ret [] (by decide) (.cons (.tmp rfl) .nil) rfl
  · refine Wp.seq ?_
    refine Wp.region ?_
    refine GoT.q rfl (QEx.as (iAV 0) (QEx.assign rfl .con)) rfl (lt_b rfl) ?_
    refine GoT.nil ?_
    refine Wp.block ?_
    refine Wp.loop1 (fun v1 => ⟨[(1, (.ptr 1 0)), (3, (iAV v1))], [(1, .cells (Body.cells b))], []⟩) (fun n v1 => ref23_Small_l1 b (ref23_Small_j2 b) n v1 = some r) fuel 0 [] [] h (LS.to.mk (.r rfl rfl (.b rfl rfl .n)) (.b rfl rfl rfl .n) rfl) ?_
    rintro (_ | n2) v1 h
    · exact none_e h
    rw [ref23_Small_l1] at h
    refine Wp.seq ?_
    refine Wp.seq ?_
    refine Wp.region ?_
    refine GoT.q rfl (QEx.move rfl (.tmp rfl)) rfl (lt_b rfl) ?_
    refine GoT.q rfl (QEx.fldP 19 rfl uT29 rfl ts27 rfl (.tmp rfl) rfl) rfl (lt_b rfl) ?_
    refine GoT.qr rfl rfl (QEx.ldP1 (Body.cells b) ((slAV 10 Fixture.av) b.Fixtures) rfl ag27 (.tmp rfl) rfl) rfl (lt_b rfl) ?_
    refine GoT.q rfl (QEx.lenL rfl ⟨_, uT27⟩ (.tmp rfl)) rfl (lt_b rfl) ?_
    refine GoT.q rfl (QEx.lssK rfl (.tmp rfl) (.tmp rfl)) rfl (lt_b rfl) ?_
    refine GoT.q rfl (QEx.move rfl (.tmp rfl)) rfl (lt_b rfl) ?_
    refine GoT.g rfl rfl rfl (fun hg => QEx.move rfl (.tmp rfl)) rfl (lt_b rfl) ?_
    refine GoT.g rfl rfl rfl (fun hg => QEx.lssK rfl (.opt (.tmp rfl) hg) .con) rfl (lt_b rfl) ?_
    refine GoT.q rfl (QEx.pickK rfl (.tmp rfl) (fun hp => (.opt (.tmp rfl) (beq_t hp))) (fun hp => .con)) rfl (lt_b rfl) ?_
    refine GoT.nil ?_
    refine Wp.condS h rfl (fun h => ?_) (fun h => ?_)
    · refine Wp.skip ?_
      refine Wp.seq ?_
      refine Wp.block ?_
      refine chk_e h fun c2 h => ?_
      refine let_e h fun x3 hx3 h => ?_
      refine Wp.seq ?_
      refine Wp.region ?_
      refine GoT.q rfl (QEx.fldP 19 rfl uT29 rfl ts27 rfl (.tmp rfl) rfl) rfl (lt_b rfl) ?_
      refine GoT.qr rfl rfl (QEx.ldP1 (Body.cells b) ((slAV 10 Fixture.av) b.Fixtures) rfl ag27 (.tmp rfl) rfl) rfl (lt_b rfl) ?_
      refine GoT.q rfl (QEx.move rfl (.tmp rfl)) rfl (lt_b rfl) ?_
      refine GoT.q rfl (QEx.as (.cptr (Fixture.cells (ix b.Fixtures v1))) (QEx.idxL (E := Fixture.av) rfl et27 (.tmp rfl) (.tmp rfl) c2)) rfl (lt_b rfl) ?_
      refine GoT.q rfl (QEx.fldC (Shape.cells ((ix b.Fixtures v1).Shape)) rfl uT35 rfl ts33 rfl (.tmp rfl) rfl) rfl (lt_b rfl) ?_
      refine GoT.q rfl (QEx.fldC [((slAV 2 Vec.av) (((ix b.Fixtures v1).Shape).Vertices))] rfl uT33 rfl ts31 rfl (.tmp rfl) rfl) rfl (lt_b rfl) ?_
      refine GoT.q rfl (QEx.ldC (x := ((slAV 2 Vec.av) (((ix b.Fixtures v1).Shape).Vertices))) rfl ag31 ts31 (.tmp rfl) (.inr ⟨rfl, rfl⟩)) rfl (lt_b rfl) ?_
      refine GoT.q rfl (QEx.lenL rfl ⟨_, uT31⟩ (.tmp rfl)) rfl (lt_b rfl) ?_
      refine GoT.q rfl (QEx.eq (QEx.gtrK rfl (.tmp rfl) .con) (congrArg boolAV hx3)) rfl (lt_b rfl) ?_
      refine GoT.nil ?_
      refine Wp.condS h rfl (fun h => ?_) (fun h => ?_)
      · refine Wp.seq ?_
        refine Wp.region ?_
        refine GoT.q rfl (QEx.as (boolAV false) (QEx.assign rfl .con)) rfl (lt_b rfl) ?_
        refine GoT.nil ?_
        refine Wp.ret ?_
        cases h
        exact LeafQ.ret [] (by decide) (.cons (.tmp rfl) .nil) rfl
      · refine Wp.skip ?_
        refine let_e h fun x4 hx4 h => ?_
        refine Wp.region ?_
        refine GoT.q rfl (QEx.move rfl (.tmp rfl)) rfl (lt_b rfl) ?_
        refine GoT.q rfl (QEx.addK rfl (.tmp rfl) .con) rfl (lt_b rfl) ?_
        refine GoT.q rfl (QEx.eq (QEx.assign rfl (.tmp rfl)) (congrArg iAV hx4)) rfl (lt_b rfl) ?_
        refine GoT.nil ?_
        exact Round1.mk x4 [] [] h (LS.to.mk (.r rfl rfl (.b rfl rfl .n)) (.b rfl rfl rfl .n) rfl)
    · refine Wp.exit ?_
      exact Joined0.mk [] [] h (LS.to.mk (.r rfl rfl .n) (.b rfl rfl rfl .n) rfl)
theorem law23_disk_ok {x_0 : Int} {r : Body} (h : law23_disk x_0 = r) : FnR Tryz.prog 31 [(iAV x_0)] (Body.av r) := by
  refine FnR.intro' (fn := Tryz.f31) (N := 12) Tryz.func31 rfl rfl (Nat.le_of_ble_eq_true rfl) [2, 7, 10] ?_
  refine Wp.seq ?_
  refine Wp.region ?_
  refine GoT.a rfl (AEx.alZ rfl zt29 rfl rfl) rfl (lt_b rfl) ?_
  refine GoT.nil ?_
  refine let_e h fun x1 hx1 h => ?_
  refine Wp.seq ?_
  refine Wp.region ?_
  refine GoT.q rfl (QEx.move rfl (.tmp rfl)) rfl (lt_b rfl) ?_
  refine GoT.q rfl (QEx.as (Vec.av (⟨x_0, 0⟩ : Vec)) (QEx.buildZ rfl uT24 zt24 (by kernel_rfl) (.cons rfl (.tmp rfl) rfl rfl (le_b rfl) .nil))) rfl (lt_b rfl) ?_
  refine GoT.q rfl (QEx.as (Transform.av (⟨(⟨x_0, 0⟩ : Vec), 0⟩ : Transform)) (QEx.buildZ rfl uT26 zt26 (by kernel_rfl) (.cons rfl (.tmp rfl) rfl rfl (le_b rfl) .nil))) rfl (lt_b rfl) ?_
  refine GoT.q rfl (QEx.as (Vec.av (⟨0, 0⟩ : Vec)) (QEx.buildZ rfl uT24 zt24 (by kernel_rfl) .nil)) rfl (lt_b rfl) ?_
  refine GoT.q rfl (QEx.as (slT 7 0 2 Vec.av ([(⟨0, 0⟩ : Vec)] : List Vec)) (QEx.buildSlice rfl et31 (.cons (.tmp rfl) rfl rfl rfl .nil) rfl (by decide))) rfl (lt_b rfl) ?_
  refine GoT.q rfl (QEx.as (Shape.av (⟨1, 65536, ([(⟨0, 0⟩ : Vec)] : List Vec)⟩ : Shape)) (QEx.buildZ rfl uT33 zt33 (by kernel_rfl) (.cons rfl .con rfl rfl (le_b rfl) (.cons rfl .con rfl rfl (le_b rfl) (.cons rfl (.drop (.tmp rfl)) rfl rfl (le_b rfl) .nil))))) rfl (lt_b rfl) ?_
  refine GoT.q rfl (QEx.as (Fixture.av (⟨(⟨1, 65536, ([(⟨0, 0⟩ : Vec)] : List Vec)⟩ : Shape), 65536, 0, 0, false, 1, 1, 0⟩ : Fixture)) (QEx.buildZ rfl uT35 zt35 (by kernel_rfl) (.cons rfl (.tmp rfl) rfl rfl (le_b rfl) (.cons rfl .con rfl rfl (le_b rfl) (.cons rfl .con rfl rfl (le_b rfl) (.cons rfl .con rfl rfl (le_b rfl) .nil)))))) rfl (lt_b rfl) ?_
  refine GoT.q rfl (QEx.as (slT 10 0 10 Fixture.av ([(⟨(⟨1, 65536, ([(⟨0, 0⟩ : Vec)] : List Vec)⟩ : Shape), 65536, 0, 0, false, 1, 1, 0⟩ : Fixture)] : List Fixture)) (QEx.buildSlice rfl et27 (.cons (.tmp rfl) rfl rfl rfl .nil) rfl (by decide))) rfl (lt_b rfl) ?_
  refine GoT.q rfl (QEx.as (Body.av (⟨1, 3, (⟨(⟨x_0, 0⟩ : Vec), 0⟩ : Transform), Vec.zero, 0, Vec.zero, 0, 0, 0, 65536, false, false, false, false, 0, ([(⟨(⟨1, 65536, ([(⟨0, 0⟩ : Vec)] : List Vec)⟩ : Shape), 65536, 0, 0, false, 1, 1, 0⟩ : Fixture)] : List Fixture)⟩ : Body)) (QEx.buildZ rfl uT29 zt29 (by kernel_rfl) (.cons rfl .con rfl rfl (le_b rfl) (.cons rfl .con rfl rfl (le_b rfl) (.cons rfl (.tmp rfl) rfl rfl (le_b rfl) (.cons rfl .con rfl rfl (le_b rfl) (.cons rfl (.drop (.tmp rfl)) rfl rfl (le_b rfl) .nil))))))) rfl (lt_b rfl) ?_
  refine GoT.s rfl (AEx.sto (Z := (Body.cells x1)) rfl rfl ts29 (.tmp rfl) rfl (.tmp rfl) rfl rfl (le_b rfl) (congrArg (fun (x : Body) => (Body.cells x)) hx1)) rfl ?_
  refine GoT.nil ?_
  refine Wp.ret ?_
  cases h
  exact LeafQ.ret [] (by decide) (.cons (.agg rfl rfl ag29 ts29) .nil) rfl
theorem shape_validCount_ok {s : Shape} {r : Bool} (h : shape_validCount s = r) : FnR Tryz.prog 78 [(Shape.av s)] (boolAV r) := by
  refine FnR.intro' (fn := Tryz.f78) (N := 23) Tryz.func78 rfl rfl (Nat.le_of_ble_eq_true rfl) [1] ?_
  refine Wp.seq ?_
  refine Wp.region ?_
  refine GoT.a rfl (AEx.bx (Z := (Shape.cells s)) rfl (.tmp rfl) rfl rfl rfl rfl) rfl (lt_b rfl) ?_
  refine GoT.q rfl (QEx.as (boolAV false) (QEx.assign rfl .con)) rfl (lt_b rfl) ?_
  refine GoT.nil ?_
  refine Wp.seq ?_
  refine Wp.region ?_
  refine GoT.q rfl (QEx.fldP 2 rfl uT33 rfl ts31 rfl (.tmp rfl) rfl) rfl (lt_b rfl) ?_
  refine GoT.qr rfl rfl (QEx.ldP1 (Shape.cells s) ((slAV 2 Vec.av) s.Vertices) rfl ag31 (.tmp rfl) rfl) rfl (lt_b rfl) ?_
  refine GoT.q rfl (QEx.lenL rfl ⟨_, uT31⟩ (.tmp rfl)) rfl (lt_b rfl) ?_
  refine GoT.q rfl (QEx.assign rfl (.tmp rfl)) rfl (lt_b rfl) ?_
  refine GoT.nil ?_
  refine Wp.seq ?_
  refine Wp.seq ?_
  refine Wp.region ?_
  refine GoT.q rfl (QEx.fldP 0 rfl uT33 rfl ts30 rfl (.tmp rfl) rfl) rfl (lt_b rfl) ?_
  refine GoT.qr rfl rfl (QEx.ldP1 (Shape.cells s) (iAV s.Kind) rfl ag30 (.tmp rfl) rfl) rfl (lt_b rfl) ?_
  refine GoT.nil ?_
  refine Wp.block ?_
  refine let_e h fun x1 hx1 h => ?_
  refine Wp.seq ?_
  refine Wp.region ?_
  refine GoT.q rfl (QEx.eqlK rfl (.tmp rfl) .con) rfl (lt_b rfl) ?_
  refine GoT.q rfl (QEx.eq (QEx.assign rfl (.tmp rfl)) (congrArg boolAV hx1)) rfl (lt_b rfl) ?_
  refine GoT.nil ?_
  refine Wp.condS h rfl (fun h => ?_) (fun h => ?_)
  · refine let_e h fun x2 hx2 h => ?_
    refine Wp.seq ?_
    refine Wp.region ?_
    refine GoT.q rfl (QEx.move rfl (.tmp rfl)) rfl (lt_b rfl) ?_
    refine GoT.q rfl (QEx.eqlK rfl (.tmp rfl) .con) rfl (lt_b rfl) ?_
    refine GoT.q rfl (QEx.eq (QEx.assign rfl (.tmp rfl)) (congrArg boolAV hx2)) rfl (lt_b rfl) ?_
    refine GoT.nil ?_
    refine Wp.ret ?_
    cases h
    exact LeafQ.ret [] (by decide) (.cons (.tmp rfl) .nil) rfl
  · refine let_e h fun x3 hx3 h => ?_
    refine Wp.seq ?_
    refine Wp.region ?_
    refine GoT.q rfl (QEx.eqlK rfl (.tmp rfl) .con) rfl (lt_b rfl) ?_
    refine GoT.q rfl (QEx.eq (QEx.assign rfl (.tmp rfl)) (congrArg boolAV hx3)) rfl (lt_b rfl) ?_
    refine GoT.nil ?_
    refine Wp.condS h rfl (fun h => ?_) (fun h => ?_)
    · refine let_e h fun x4 hx4 h => ?_
      refine Wp.seq ?_
      refine Wp.region ?_
      refine GoT.q rfl (QEx.move rfl (.tmp rfl)) rfl (lt_b rfl) ?_
      refine GoT.q rfl (QEx.eqlK rfl (.tmp rfl) .con) rfl (lt_b rfl) ?_
      refine GoT.q rfl (QEx.eq (QEx.assign rfl (.tmp rfl)) (congrArg boolAV hx4)) rfl (lt_b rfl) ?_
      refine GoT.nil ?_
      refine Wp.ret ?_
      cases h
      exact LeafQ.ret [] (by decide) (.cons (.tmp rfl) .nil) rfl
    · refine Wp.skip ?_
      refine let_e h fun x5 hx5 h => ?_
      refine Wp.seq ?_
      refine Wp.region ?_
      refine GoT.q rfl (QEx.move rfl (.tmp rfl)) rfl (lt_b rfl) ?_
      refine GoT.q rfl (QEx.geqK rfl (.tmp rfl) .con) rfl (lt_b rfl) ?_
      refine GoT.q rfl (QEx.move rfl (.tmp rfl)) rfl (lt_b rfl) ?_
      refine GoT.g rfl rfl rfl (fun hg => QEx.move rfl (.tmp rfl)) rfl (lt_b rfl) ?_
      refine GoT.g rfl rfl rfl (fun hg => QEx.leqK rfl (.opt (.tmp rfl) hg) .con) rfl (lt_b rfl) ?_
      refine GoT.q rfl (QEx.pickK rfl (.tmp rfl) (fun hp => (.opt (.tmp rfl) (beq_t hp))) (fun hp => .con)) rfl (lt_b rfl) ?_
      refine GoT.q rfl (QEx.eq (QEx.assign rfl (.tmp rfl)) (congrArg boolAV hx5)) rfl (lt_b rfl) ?_
      refine GoT.nil ?_
      refine Wp.ret ?_
      cases h
      exact LeafQ.ret [] (by decide) (.cons (.tmp rfl) .nil) rfl
theorem slices_IndexFunc_Vec_ok {s : List Vec} {f : Vec → Option Bool} {fid_1 : Nat} {caps_1 : List AV} (cf_1 : CloR Tryz.prog fid_1 caps_1 (fun x : Vec => [(Vec.av x)]) boolAV f) {r : Int} (h : slices_IndexFunc_Vec s f = some r) : FnR Tryz.prog 128 [((slAV 2 Vec.av) s), (.clo fid_1 caps_1)] (iAV r) := by
  refine FnR.intro' (fn := Tryz.f128) (N := 19) Tryz.func128 rfl rfl (Nat.le_of_ble_eq_true rfl) [6, 12] ?_
  refine Wp.seq ?_
  refine Wp.region ?_
  refine GoT.q rfl (QEx.as (iAV 0) (QEx.assign rfl .con)) rfl (lt_b rfl) ?_
  refine GoT.nil ?_
  refine Wp.join0 (⟨[], [], [6, 12]⟩) (slices_IndexFunc_Vec_j2 = some r) ?_ ?_
  · intro h
    refine Wp.seq ?_
    refine Wp.region ?_
    refine GoT.q rfl (QEx.as (iAV (-1)) (QEx.assign rfl .con)) rfl (lt_b rfl) ?_
    refine GoT.nil ?_
    refine Wp.ret ?_
    cases h
    exact LeafQ.ret [] (by decide) (.cons (.tmp rfl) .nil) rfl
  · refine Wp.seq ?_
    refine Wp.region ?_
    refine GoT.q rfl (QEx.move rfl (.tmp rfl)) rfl (lt_b rfl) ?_
    refine GoT.q rfl (QEx.lenL rfl ⟨_, uT31⟩ (.tmp rfl)) rfl (lt_b rfl) ?_
    refine GoT.q rfl (QEx.as (iAV 0) (QEx.move rfl .con)) rfl (lt_b rfl) ?_
    refine GoT.nil ?_
    refine Wp.block ?_
    refine Wp.loop1 (fun v1 => ⟨[(0, ((slAV 2 Vec.av) s)), (1, (.clo fid_1 caps_1)), (7, (iAV ((s).length : Int))), (8, (iAV v1))], [], [6, 12]⟩) (fun n v1 => slices_IndexFunc_Vec_l1 s f slices_IndexFunc_Vec_j2 n v1 = some r) fuel 0 [] [] h (LS.to.mk (.b rfl rfl (.b rfl rfl (.b rfl rfl (.b rfl rfl .n)))) .n rfl) ?_
    rintro (_ | n2) v1 h
    · exact none_e h
    rw [slices_IndexFunc_Vec_l1] at h
    refine Wp.seq ?_
    refine Wp.region ?_
    refine GoT.q rfl (QEx.lssK rfl (.tmp rfl) (.tmp rfl)) rfl (lt_b rfl) ?_
    refine GoT.nil ?_
    refine Wp.seq ?_
    refine Wp.condS h rfl (fun h => ?_) (fun h => ?_)
    · refine Wp.skip ?_
      refine Wp.seq ?_
      refine Wp.block ?_
      refine Wp.seq ?_
      refine Wp.region ?_
      refine GoT.q rfl (QEx.move rfl (.tmp rfl)) rfl (lt_b rfl) ?_
      refine GoT.q rfl (QEx.assign rfl (.tmp rfl)) rfl (lt_b rfl) ?_
      refine GoT.nil ?_
      refine chk_e h fun c2 h => ?_
      refine bind_e h fun r3 hr3 h => ?_
      refine Wp.seq ?_
      refine Wp.region ?_
      refine GoT.q rfl (QEx.move rfl (.tmp rfl)) rfl (lt_b rfl) ?_
      refine GoT.q rfl (QEx.move rfl (.tmp rfl)) rfl (lt_b rfl) ?_
      refine GoT.q rfl (QEx.move rfl (.tmp rfl)) rfl (lt_b rfl) ?_
      refine GoT.q rfl (QEx.as (.cptr (Vec.cells (ix s v1))) (QEx.idxL (E := Vec.av) rfl et31 (.tmp rfl) (.tmp rfl) c2)) rfl (lt_b rfl) ?_
      refine GoT.q rfl (QEx.ldC (x := (Vec.av (ix s v1))) rfl ag24 ts24 (.tmp rfl) (.inl ⟨rfl, rfl, rfl⟩)) rfl (lt_b rfl) ?_
      refine GoT.q rfl (QEx.calC (A := (fun x : Vec => [(Vec.av x)])) (E := boolAV) (g := f) (ix s v1) r3 cf_1 rfl (.tmp rfl) (.cons (.tmp rfl) .nil) rfl hr3 rfl) rfl (lt_b rfl) ?_
      refine GoT.nil ?_
      refine Wp.condS h rfl (fun h => ?_) (fun h => ?_)
      · refine Wp.seq ?_
        refine Wp.region ?_
        refine GoT.q rfl (QEx.move rfl (.tmp rfl)) rfl (lt_b rfl) ?_
        refine GoT.q rfl (QEx.assign rfl (.tmp rfl)) rfl (lt_b rfl) ?_
        refine GoT.nil ?_
        refine Wp.ret ?_
        cases h
        exact LeafQ.ret [] (by decide) (.cons (.tmp rfl) .nil) rfl
      · refine Wp.skip ?_
        refine let_e h fun x4 hx4 h => ?_
        refine Wp.region ?_
        refine GoT.q rfl (QEx.addK rfl (.tmp rfl) .con) rfl (lt_b rfl) ?_
        refine GoT.q rfl (QEx.eq (QEx.move rfl (.tmp rfl)) (congrArg iAV hx4)) rfl (lt_b rfl) ?_
        refine GoT.nil ?_
        exact Round1.mk x4 [] [] h (LS.to.mk (.b rfl rfl (.b rfl rfl (.b rfl rfl (.b rfl rfl .n)))) .n rfl)
    · refine Wp.exit ?_
      exact Joined0.mk [] [] h (LS.to.mk .n .n rfl)
theorem slices_ContainsFunc_Vec_ok {s : List Vec} {f : Vec → Option Bool} {fid_1 : Nat} {caps_1 : List AV} (cf_1 : CloR Tryz.prog fid_1 caps_1 (fun x : Vec => [(Vec.av x)]) boolAV f) {r : Bool} (h : slices_ContainsFunc_Vec s f = some r) : FnR Tryz.prog 79 [((slAV 2 Vec.av) s), (.clo fid_1 caps_1)] (boolAV r) := by
  refine FnR.intro' (fn := Tryz.f79) (N := 9) Tryz.func79 rfl rfl (Nat.le_of_ble_eq_true rfl) [5] ?_
  refine Wp.seq ?_
  refine Wp.region ?_
  refine GoT.q rfl (QEx.as (boolAV false) (QEx.assign rfl .con)) rfl (lt_b rfl) ?_
  refine GoT.nil ?_
  refine bind_e h fun r1 hr1 h => ?_
  refine let_e h fun x2 hx2 h => ?_
  refine Wp.seq ?_
  refine Wp.region ?_
  refine GoT.q rfl (QEx.move rfl (.tmp rfl)) rfl (lt_b rfl) ?_
  refine GoT.q rfl (QEx.move rfl (.tmp rfl)) rfl (lt_b rfl) ?_
  refine GoT.q rfl (QEx.cal0 (r := (iAV r1)) [((slAV 2 Vec.av) s), (.clo fid_1 caps_1)] rfl Tryz.call128 (.cons (.tmp rfl) (.cons (.tmp rfl) .nil)) (slices_IndexFunc_Vec_ok cf_1 hr1) rfl rfl) rfl (lt_b rfl) ?_
  refine GoT.q rfl (QEx.geqK rfl (.tmp rfl) .con) rfl (lt_b rfl) ?_
  refine GoT.q rfl (QEx.eq (QEx.assign rfl (.tmp rfl)) (congrArg boolAV hx2)) rfl (lt_b rfl) ?_
  refine GoT.nil ?_
  refine Wp.ret ?_
  cases h
  exact LeafQ.ret [] (by decide) (.cons (.tmp rfl) .nil) rfl
theorem shape_outOfRange_ok {n_0 : Int} {r : Bool} (h : shape_outOfRange n_0 = r) : FnR Tryz.prog 81 [(iAV n_0)] (boolAV r) := by
  refine FnR.intro' (fn := Tryz.f81) (N := 9) Tryz.func81 rfl rfl (Nat.le_of_ble_eq_true rfl) [] ?_
  refine Wp.seq ?_
  refine Wp.region ?_
  refine GoT.q rfl (QEx.as (boolAV false) (QEx.assign rfl .con)) rfl (lt_b rfl) ?_
  refine GoT.nil ?_
  refine let_e h fun x1 hx1 h => ?_
  refine Wp.seq ?_
  refine Wp.region ?_
  refine GoT.q rfl (QEx.move rfl (.tmp rfl)) rfl (lt_b rfl) ?_
  refine GoT.q rfl (QEx.lssK rfl (.tmp rfl) .con) rfl (lt_b rfl) ?_
  refine GoT.q rfl (QEx.move rfl (.tmp rfl)) rfl (lt_b rfl) ?_
  refine GoT.g rfl rfl rfl (fun hg => QEx.move rfl (.tmp rfl)) rfl (lt_b rfl) ?_
  refine GoT.g rfl rfl rfl (fun hg => QEx.gtrK rfl (.opt (.tmp rfl) hg) .con) rfl (lt_b rfl) ?_
  refine GoT.q rfl (QEx.pickK rfl (.tmp rfl) (fun hp => .con) (fun hp => (.opt (.tmp rfl) (beq_f hp)))) rfl (lt_b rfl) ?_
  refine GoT.q rfl (QEx.eq (QEx.assign rfl (.tmp rfl)) (congrArg boolAV hx1)) rfl (lt_b rfl) ?_
  refine GoT.nil ?_
  refine Wp.ret ?_
  cases h
  exact LeafQ.ret [] (by decide) (.cons (.tmp rfl) .nil) rfl
theorem shape_Validate_c1_ok {v_0 : Vec} {r : Bool} (h : shape_Validate_c1 v_0 = r) : FnR Tryz.prog 80 [(Vec.av v_0)] (boolAV r) := by
  refine FnR.intro' (fn := Tryz.f80) (N := 11) Tryz.func80 rfl rfl (Nat.le_of_ble_eq_true rfl) [1] ?_
  refine Wp.seq ?_
  refine Wp.region ?_
  refine GoT.a rfl (AEx.bx (Z := (Vec.cells v_0)) rfl (.tmp rfl) rfl rfl rfl rfl) rfl (lt_b rfl) ?_
  refine GoT.q rfl (QEx.as (boolAV false) (QEx.assign rfl .con)) rfl (lt_b rfl) ?_
  refine GoT.nil ?_
  refine let_e h fun r1 hr1 h => ?_
  refine let_e h fun r2 hr2 h => ?_
  refine let_e h fun x3 hx3 h => ?_
  refine Wp.seq ?_
  refine Wp.region ?_
  refine GoT.q rfl (QEx.fldP 0 rfl uT24 rfl ts3 rfl (.tmp rfl) rfl) rfl (lt_b rfl) ?_
  refine GoT.qr rfl rfl (QEx.ldP1 (Vec.cells v_0) (iAV v_0.X) rfl ag3 (.tmp rfl) rfl) rfl (lt_b rfl) ?_
  refine GoT.q rfl (QEx.cal0 (r := (boolAV r1)) [(iAV v_0.X)] rfl Tryz.call81 (.cons (.tmp rfl) .nil) (shape_outOfRange_ok hr1) rfl rfl) rfl (lt_b rfl) ?_
  refine GoT.q rfl (QEx.move rfl (.tmp rfl)) rfl (lt_b rfl) ?_
  refine GoT.g rfl rfl rfl (fun hg => QEx.fldP 1 rfl uT24 rfl ts3 rfl (.tmp rfl) rfl) rfl (lt_b rfl) ?_
  refine GoT.gr rfl rfl rfl rfl (fun hg => QEx.ldP1 (Vec.cells v_0) (iAV v_0.Y) rfl ag3 (.opt (.tmp rfl) hg) rfl) rfl (lt_b rfl) ?_
  refine GoT.g rfl rfl rfl (fun hg => QEx.cal0 (r := (boolAV r2)) [(iAV v_0.Y)] rfl Tryz.call81 (.cons (.opt (.tmp rfl) hg) .nil) (shape_outOfRange_ok hr2) rfl rfl) rfl (lt_b rfl) ?_
  refine GoT.q rfl (QEx.pickK rfl (.tmp rfl) (fun hp => .con) (fun hp => (.opt (.tmp rfl) (beq_f hp)))) rfl (lt_b rfl) ?_
  refine GoT.q rfl (QEx.eq (QEx.assign rfl (.tmp rfl)) (congrArg boolAV hx3)) rfl (lt_b rfl) ?_
  refine GoT.nil ?_
  refine Wp.ret ?_
  cases h
  exact LeafQ.ret [] (by decide) (.cons (.tmp rfl) .nil) rfl
theorem fixed_Saturate_ok {x_0 : Int} {r : Int} (h : fixed_Saturate x_0 = r) : FnR Tryz.prog 117 [(iAV x_0)] (iAV r) := by
  refine FnR.intro' (fn := Tryz.f117) (N := 6) Tryz.func117 rfl rfl (Nat.le_of_ble_eq_true rfl) [] ?_
  refine Wp.seq ?_
  refine Wp.region ?_
  refine GoT.q rfl (QEx.as (iAV 0) (QEx.assign rfl .con)) rfl (lt_b rfl) ?_
  refine GoT.nil ?_
  refine let_e h fun x1 hx1 h => ?_
  refine Wp.seq ?_
  refine Wp.region ?_
  refine GoT.q rfl (QEx.move rfl (.tmp rfl)) rfl (lt_b rfl) ?_
  refine GoT.q rfl (QEx.maxK rfl (.tmp rfl) .con) rfl (lt_b rfl) ?_
  refine GoT.q rfl (QEx.minK rfl (.tmp rfl) .con) rfl (lt_b rfl) ?_
  refine GoT.q rfl (QEx.eq (QEx.assign rfl (.tmp rfl)) (congrArg iAV hx1)) rfl (lt_b rfl) ?_
  refine GoT.nil ?_
  refine Wp.ret ?_
  cases h
  exact LeafQ.ret [] (by decide) (.cons (.tmp rfl) .nil) rfl
theorem fixed_Sub_ok {a : Int} {b : Int} {r : Int} (h : fixed_Sub a b = r) : FnR Tryz.prog 111 [(iAV a), (iAV b)] (iAV r) := by
  refine FnR.intro' (fn := Tryz.f111) (N := 11) Tryz.func111 rfl rfl (Nat.le_of_ble_eq_true rfl) [] ?_
  refine Wp.seq ?_
  refine Wp.region ?_
  refine GoT.q rfl (QEx.as (iAV 0) (QEx.assign rfl .con)) rfl (lt_b rfl) ?_
  refine GoT.nil ?_
  refine let_e h fun r1 hr1 h => ?_
  refine let_e h fun r2 hr2 h => ?_
  refine let_e h fun r3 hr3 h => ?_
  refine Wp.seq ?_
  refine Wp.region ?_
  refine GoT.q rfl (QEx.move rfl (.tmp rfl)) rfl (lt_b rfl) ?_
  refine GoT.q rfl (QEx.cal0 (r := (iAV r1)) [(iAV a)] rfl Tryz.call117 (.cons (.tmp rfl) .nil) (fixed_Saturate_ok hr1) rfl rfl) rfl (lt_b rfl) ?_
  refine GoT.q rfl (QEx.move rfl (.tmp rfl)) rfl (lt_b rfl) ?_
  refine GoT.q rfl (QEx.cal0 (r := (iAV r2)) [(iAV b)] rfl Tryz.call117 (.cons (.tmp rfl) .nil) (fixed_Saturate_ok hr2) rfl rfl) rfl (lt_b rfl) ?_
  refine GoT.q rfl (QEx.subK rfl (.tmp rfl) (.tmp rfl)) rfl (lt_b rfl) ?_
  refine GoT.q rfl (QEx.cal0 (r := (iAV r3)) [(iAV (w64 (r1 - r2)))] rfl Tryz.call117 (.cons (.tmp rfl) .nil) (fixed_Saturate_ok hr3) rfl rfl) rfl (lt_b rfl) ?_
  refine GoT.q rfl (QEx.assign rfl (.tmp rfl)) rfl (lt_b rfl) ?_
  refine GoT.nil ?_
  refine Wp.ret ?_
  cases h
  exact LeafQ.ret [] (by decide) (.cons (.tmp rfl) .nil) rfl
theorem vec2_Sub_ok {a : Vec} {b : Vec} {r : Vec} (h : vec2_Sub a b = r) : FnR Tryz.prog 51 [(Vec.av a), (Vec.av b)] (Vec.av r) := by
  refine FnR.intro' (fn := Tryz.f51) (N := 16) Tryz.func51 rfl rfl (Nat.le_of_ble_eq_true rfl) [2, 3, 4] ?_
  refine Wp.seq ?_
  refine Wp.region ?_
  refine GoT.a rfl (AEx.bx (Z := (Vec.cells a)) rfl (.tmp rfl) rfl rfl rfl rfl) rfl (lt_b rfl) ?_
  refine GoT.a rfl (AEx.bx (Z := (Vec.cells b)) rfl (.tmp rfl) rfl rfl rfl rfl) rfl (lt_b rfl) ?_
  refine GoT.a rfl (AEx.alZ rfl zt24 rfl rfl) rfl (lt_b rfl) ?_
  refine GoT.nil ?_
  refine let_e h fun r1 hr1 h => ?_
  refine let_e h fun r2 hr2 h => ?_
  refine let_e h fun x3 hx3 h => ?_
  refine Wp.seq ?_
  refine Wp.drawn2 (n0 := 12) [] mixed ?_
  refine GoD.q rfl (QEx.fldP 0 rfl uT24 rfl ts3 rfl (.tmp rfl) rfl) rfl (lt_b rfl) ?_
  refine GoD.qr rfl rfl (QEx.ldP1 (Vec.cells a) (iAV a.X) rfl ag3 (.tmp rfl) rfl) rfl (lt_b rfl) ?_
  refine GoD.q rfl (QEx.fldP 0 rfl uT24 rfl ts3 rfl (.tmp rfl) rfl) rfl (lt_b rfl) ?_
  refine GoD.qr rfl rfl (QEx.ldP1 (Vec.cells b) (iAV b.X) rfl ag3 (.tmp rfl) rfl) rfl (lt_b rfl) ?_
  refine GoD.q rfl (QEx.cal0 (r := (iAV r1)) [(iAV a.X), (iAV b.X)] rfl Tryz.call111 (.cons (.tmp rfl) (.cons (.tmp rfl) .nil)) (fixed_Sub_ok hr1) rfl rfl) rfl (lt_b rfl) ?_
  refine GoD.q rfl (QEx.fldP 1 rfl uT24 rfl ts3 rfl (.tmp rfl) rfl) rfl (lt_b rfl) ?_
  refine GoD.qr rfl rfl (QEx.ldP1 (Vec.cells a) (iAV a.Y) rfl ag3 (.tmp rfl) rfl) rfl (lt_b rfl) ?_
  refine GoD.q rfl (QEx.fldP 1 rfl uT24 rfl ts3 rfl (.tmp rfl) rfl) rfl (lt_b rfl) ?_
  refine GoD.qr rfl rfl (QEx.ldP1 (Vec.cells b) (iAV b.Y) rfl ag3 (.tmp rfl) rfl) rfl (lt_b rfl) ?_
  refine GoD.q rfl (QEx.cal0 (r := (iAV r2)) [(iAV a.Y), (iAV b.Y)] rfl Tryz.call111 (.cons (.tmp rfl) (.cons (.tmp rfl) .nil)) (fixed_Sub_ok hr2) rfl rfl) rfl (lt_b rfl) ?_
  refine GoD.q rfl (QEx.as (Vec.av (⟨r1, r2⟩ : Vec)) (QEx.buildZ rfl uT24 zt24 (by kernel_rfl) (.cons rfl (.tmp rfl) rfl rfl (le_b rfl) (.cons rfl (.tmp rfl) rfl rfl (le_b rfl) .nil)))) rfl (lt_b rfl) ?_
  refine GoD.s rfl (Z := (Vec.cells x3)) rfl rfl ts24 (.tmp rfl) rfl (.tmp rfl) rfl rfl (le_b rfl) (congrArg (fun (x : Vec) => (Vec.cells x)) hx3) ?_
  refine GoD.nil ⟨by kernel_rfl, by kernel_rfl, by kernel_rfl, by kernel_rfl, by kernel_rfl, ?_⟩
  refine GoT.nil ?_
  refine Wp.ret ?_
  cases h
  exact LeafQ.ret [] (by decide) (.cons (.agg rfl rfl ag24 ts24) .nil) rfl
theorem vec2_saturate_ok {v_0 : Vec} {r : Vec} (h : vec2_saturate v_0 = r) : FnR Tryz.prog 119 [(Vec.av v_0)] (Vec.av r) := by
  refine FnR.intro' (fn := Tryz.f119) (N := 10) Tryz.func119 rfl rfl (Nat.le_of_ble_eq_true rfl) [1, 2] ?_
  refine Wp.seq ?_
  refine Wp.region ?_
  refine GoT.a rfl (AEx.bx (Z := (Vec.cells v_0)) rfl (.tmp rfl) rfl rfl rfl rfl) rfl (lt_b rfl) ?_
  refine GoT.a rfl (AEx.alZ rfl zt24 rfl rfl) rfl (lt_b rfl) ?_
  refine GoT.nil ?_
  refine let_e h fun r1 hr1 h => ?_
  refine let_e h fun r2 hr2 h => ?_
  refine let_e h fun x3 hx3 h => ?_
  refine Wp.seq ?_
  refine Wp.drawn2 (n0 := 8) [] mixed ?_
  refine GoD.q rfl (QEx.fldP 0 rfl uT24 rfl ts3 rfl (.tmp rfl) rfl) rfl (lt_b rfl) ?_
  refine GoD.qr rfl rfl (QEx.ldP1 (Vec.cells v_0) (iAV v_0.X) rfl ag3 (.tmp rfl) rfl) rfl (lt_b rfl) ?_
  refine GoD.q rfl (QEx.cal0 (r := (iAV r1)) [(iAV v_0.X)] rfl Tryz.call117 (.cons (.tmp rfl) .nil) (fixed_Saturate_ok hr1) rfl rfl) rfl (lt_b rfl) ?_
  refine GoD.q rfl (QEx.fldP 1 rfl uT24 rfl ts3 rfl (.tmp rfl) rfl) rfl (lt_b rfl) ?_
  refine GoD.qr rfl rfl (QEx.ldP1 (Vec.cells v_0) (iAV v_0.Y) rfl ag3 (.tmp rfl) rfl) rfl (lt_b rfl) ?_
  refine GoD.q rfl (QEx.cal0 (r := (iAV r2)) [(iAV v_0.Y)] rfl Tryz.call117 (.cons (.tmp rfl) .nil) (fixed_Saturate_ok hr2) rfl rfl) rfl (lt_b rfl) ?_
  refine GoD.q rfl (QEx.as (Vec.av (⟨r1, r2⟩ : Vec)) (QEx.buildZ rfl uT24 zt24 (by kernel_rfl) (.cons rfl (.tmp rfl) rfl rfl (le_b rfl) (.cons rfl (.tmp rfl) rfl rfl (le_b rfl) .nil)))) rfl (lt_b rfl) ?_
  refine GoD.s rfl (Z := (Vec.cells x3)) rfl rfl ts24 (.tmp rfl) rfl (.tmp rfl) rfl rfl (le_b rfl) (congrArg (fun (x : Vec) => (Vec.cells x)) hx3) ?_
  refine GoD.nil ⟨by kernel_rfl, by kernel_rfl, by kernel_rfl, by kernel_rfl, by kernel_rfl, ?_⟩
  refine GoT.nil ?_
  refine Wp.ret ?_
  cases h
  exact LeafQ.ret [] (by decide) (.cons (.agg rfl rfl ag24 ts24) .nil) rfl
theorem vec2_DistanceSquared_ok {a : Vec} {b : Vec} {r : Int} (h : vec2_DistanceSquared a b = r) : FnR Tryz.prog 130 [(Vec.av a), (Vec.av b)] (iAV r) := by
  refine FnR.intro' (fn := Tryz.f130) (N := 28) Tryz.func130 rfl rfl (Nat.le_of_ble_eq_true rfl) [2, 3] ?_
  refine Wp.seq ?_
  refine Wp.region ?_
  refine GoT.a rfl (AEx.bx (Z := (Vec.cells a)) rfl (.tmp rfl) rfl rfl rfl rfl) rfl (lt_b rfl) ?_
  refine GoT.a rfl (AEx.bx (Z := (Vec.cells b)) rfl (.tmp rfl) rfl rfl rfl rfl) rfl (lt_b rfl) ?_
  refine GoT.q rfl (QEx.as (iAV 0) (QEx.assign rfl .con)) rfl (lt_b rfl) ?_
  refine GoT.nil ?_
  refine let_e h fun r1 hr1 h => ?_
  refine let_e h fun r2 hr2 h => ?_
  refine let_e h fun x3 hx3 h => ?_
  refine let_e h fun x4 hx4 h => ?_
  refine Wp.seq ?_
  refine Wp.drawn2 (n0 := 6) [] mixed ?_
  refine GoD.qr rfl rfl (QEx.ldP (Vec.cells a) (Vec.av a) rfl ag24 ts24 (.tmp rfl) (le_b rfl) rfl) rfl (lt_b rfl) ?_
  refine GoD.q rfl (QEx.cal0 (r := (Vec.av r1)) [(Vec.av a)] rfl Tryz.call119 (.cons (.tmp rfl) .nil) (vec2_saturate_ok hr1) rfl rfl) rfl (lt_b rfl) ?_
  refine GoD.qr rfl rfl (QEx.ldP (Vec.cells b) (Vec.av b) rfl ag24 ts24 (.tmp rfl) (le_b rfl) rfl) rfl (lt_b rfl) ?_
  refine GoD.q rfl (QEx.cal0 (r := (Vec.av r2)) [(Vec.av b)] rfl Tryz.call119 (.cons (.tmp rfl) .nil) (vec2_saturate_ok hr2) rfl rfl) rfl (lt_b rfl) ?_
  refine GoD.s rfl (Z := (Vec.cells x3)) rfl rfl ts24 (.tmp rfl) rfl (.tmp rfl) rfl rfl (le_b rfl) (congrArg (fun (x : Vec) => (Vec.cells x)) hx3) ?_
  refine GoD.s rfl (Z := (Vec.cells x4)) rfl rfl ts24 (.tmp rfl) rfl (.tmp rfl) rfl rfl (le_b rfl) (congrArg (fun (x : Vec) => (Vec.cells x)) hx4) ?_
  refine GoD.nil ⟨by kernel_rfl, by kernel_rfl, by kernel_rfl, by kernel_rfl, by kernel_rfl, ?_⟩
  refine GoT.nil ?_
  refine let_e h fun x5 hx5 h => ?_
  refine let_e h fun x6 hx6 h => ?_
  refine Wp.seq ?_
  refine Wp.drawn2 (n0 := 12) [] mixed ?_
  refine GoD.q rfl (QEx.fldP 0 rfl uT24 rfl ts3 rfl (.tmp rfl) rfl) rfl (lt_b rfl) ?_
  refine GoD.qr rfl rfl (QEx.ldP1 (Vec.cells x4) (iAV x4.X) rfl ag3 (.tmp rfl) rfl) rfl (lt_b rfl) ?_
  refine GoD.q rfl (QEx.fldP 0 rfl uT24 rfl ts3 rfl (.tmp rfl) rfl) rfl (lt_b rfl) ?_
  refine GoD.qr rfl rfl (QEx.ldP1 (Vec.cells x3) (iAV x3.X) rfl ag3 (.tmp rfl) rfl) rfl (lt_b rfl) ?_
  refine GoD.q rfl (QEx.subK rfl (.tmp rfl) (.tmp rfl)) rfl (lt_b rfl) ?_
  refine GoD.q rfl (QEx.fldP 1 rfl uT24 rfl ts3 rfl (.tmp rfl) rfl) rfl (lt_b rfl) ?_
  refine GoD.qr rfl rfl (QEx.ldP1 (Vec.cells x4) (iAV x4.Y) rfl ag3 (.tmp rfl) rfl) rfl (lt_b rfl) ?_
  refine GoD.q rfl (QEx.fldP 1 rfl uT24 rfl ts3 rfl (.tmp rfl) rfl) rfl (lt_b rfl) ?_
  refine GoD.qr rfl rfl (QEx.ldP1 (Vec.cells x3) (iAV x3.Y) rfl ag3 (.tmp rfl) rfl) rfl (lt_b rfl) ?_
  refine GoD.q rfl (QEx.subK rfl (.tmp rfl) (.tmp rfl)) rfl (lt_b rfl) ?_
  refine GoD.q rfl (QEx.eq (QEx.assign rfl (.tmp rfl)) (congrArg iAV hx5)) rfl (lt_b rfl) ?_
  refine GoD.q rfl (QEx.eq (QEx.assign rfl (.tmp rfl)) (congrArg iAV hx6)) rfl (lt_b rfl) ?_
  refine GoD.nil ⟨by kernel_rfl, by kernel_rfl, by kernel_rfl, by kernel_rfl, by kernel_rfl, ?_⟩
  refine GoT.nil ?_
  refine let_e h fun x7 hx7 h => ?_
  refine Wp.seq ?_
  refine Wp.region ?_
  refine GoT.q rfl (QEx.move rfl (.tmp rfl)) rfl (lt_b rfl) ?_
  refine GoT.q rfl (QEx.move rfl (.tmp rfl)) rfl (lt_b rfl) ?_
  refine GoT.q rfl (QEx.mulK rfl (.tmp rfl) (.tmp rfl)) rfl (lt_b rfl) ?_
  refine GoT.q rfl (QEx.move rfl (.tmp rfl)) rfl (lt_b rfl) ?_
  refine GoT.q rfl (QEx.move rfl (.tmp rfl)) rfl (lt_b rfl) ?_
  refine GoT.q rfl (QEx.mulK rfl (.tmp rfl) (.tmp rfl)) rfl (lt_b rfl) ?_
  refine GoT.q rfl (QEx.addK rfl (.tmp rfl) (.tmp rfl)) rfl (lt_b rfl) ?_
  refine GoT.q rfl (QEx.eq (QEx.assign rfl (.tmp rfl)) (congrArg iAV hx7)) rfl (lt_b rfl) ?_
  refine GoT.nil ?_
  refine Wp.ret ?_
  cases h
  exact LeafQ.ret [] (by decide) (.cons (.tmp rfl) .nil) rfl
theorem fixed_Isqrt_ok {n_0 : Int} {r : Int} (h : fixed_Isqrt n_0 = some r) : FnR Tryz.prog 129 [(iAV n_0)] (iAV r) := by
  refine FnR.intro' (fn := Tryz.f129) (N := 29) Tryz.func129 rfl rfl (Nat.le_of_ble_eq_true rfl) [] ?_
  refine Wp.seq ?_
  refine Wp.region ?_
  refine GoT.q rfl (QEx.as (iAV 0) (QEx.assign rfl .con)) rfl (lt_b rfl) ?_
  refine GoT.nil ?_
  refine Wp.seq ?_
  refine Wp.seq ?_
  refine Wp.region ?_
  refine GoT.q rfl (QEx.move rfl (.tmp rfl)) rfl (lt_b rfl) ?_
  refine GoT.q rfl (QEx.lssK rfl (.tmp rfl) .con) rfl (lt_b rfl) ?_
  refine GoT.q rfl (QEx.move rfl (.tmp rfl)) rfl (lt_b rfl) ?_
  refine GoT.g rfl rfl rfl (fun hg => QEx.move rfl (.tmp rfl)) rfl (lt_b rfl) ?_
  refine GoT.g rfl rfl rfl (fun hg => QEx.gtrK rfl (.opt (.tmp rfl) hg) .con) rfl (lt_b rfl) ?_
  refine GoT.q rfl (QEx.pickK rfl (.tmp rfl) (fun hp => .con) (fun hp => (.opt (.tmp rfl) (beq_f hp)))) rfl (lt_b rfl) ?_
  refine GoT.nil ?_
  refine Wp.condS h rfl (fun h => ?_) (fun h => ?_)
  · refine Wp.seq ?_
    refine Wp.region ?_
    refine GoT.q rfl (QEx.as (iAV 0) (QEx.assign rfl .con)) rfl (lt_b rfl) ?_
    refine GoT.nil ?_
    refine Wp.ret ?_
    cases h
    exact LeafQ.ret [] (by decide) (.cons (.tmp rfl) .nil) rfl
  · refine Wp.skip ?_
    refine Wp.seq ?_
    refine Wp.region ?_
    refine GoT.q rfl (QEx.as (iAV 0) (QEx.assign rfl .con)) rfl (lt_b rfl) ?_
    refine GoT.nil ?_
    refine Wp.join1 (fun v1 => ⟨[(3, (iAV v1))], [], []⟩) (fun v1 => fixed_Isqrt_j3 v1 = some r) ?_ ?_
    · intro v1 h
      refine Wp.seq ?_
      refine Wp.region ?_
      refine GoT.q rfl (QEx.move rfl (.tmp rfl)) rfl (lt_b rfl) ?_
      refine GoT.q rfl (QEx.assign rfl (.tmp rfl)) rfl (lt_b rfl) ?_
      refine GoT.nil ?_
      refine Wp.ret ?_
      cases h
      exact LeafQ.ret [] (by decide) (.cons (.tmp rfl) .nil) rfl
    · refine Wp.seq ?_
      refine Wp.region ?_
      refine GoT.q rfl (QEx.as (iAV 2147483648) (QEx.assign rfl .con)) rfl (lt_b rfl) ?_
      refine GoT.nil ?_
      refine Wp.block ?_
      refine Wp.loop2 (fun v2 v3 => ⟨[(0, (iAV n_0)), (3, (iAV v2)), (4, (iAV v3))], [], []⟩) (fun n v2 v3 => fixed_Isqrt_l2 n_0 fixed_Isqrt_j3 n v2 v3 = some r) fuel 0 2147483648 [] [] h (LS.to.mk (.b rfl rfl (.b rfl rfl (.b rfl rfl .n))) .n rfl) ?_
      rintro (_ | n2) v2 v3 h
      · exact none_e h
      rw [fixed_Isqrt_l2] at h
      refine Wp.seq ?_
      refine Wp.seq ?_
      refine Wp.region ?_
      refine GoT.q rfl (QEx.move rfl (.tmp rfl)) rfl (lt_b rfl) ?_
      refine GoT.q rfl (QEx.gtrK rfl (.tmp rfl) .con) rfl (lt_b rfl) ?_
      refine GoT.nil ?_
      refine Wp.condS h rfl (fun h => ?_) (fun h => ?_)
      · refine Wp.skip ?_
        refine Wp.join1 (fun v4 => ⟨[(0, (iAV n_0)), (3, (iAV v4)), (4, (iAV v3))], [], []⟩) (fun v4 => (fixed_Isqrt_j1 v3 (fixed_Isqrt_l2 n_0 fixed_Isqrt_j3 n2)) v4 = some r) ?_ ?_
        · intro v4 h
          refine let_e h fun x7 hx7 h => ?_
          refine Wp.region ?_
          refine GoT.q rfl (QEx.move rfl (.tmp rfl)) rfl (lt_b rfl) ?_
          refine GoT.q rfl (QEx.shrK rfl (.tmp rfl) .con (by decide)) rfl (lt_b rfl) ?_
          refine GoT.q rfl (QEx.eq (QEx.assign rfl (.tmp rfl)) (congrArg iAV hx7)) rfl (lt_b rfl) ?_
          refine GoT.nil ?_
          exact Round2.mk v4 x7 [] [] h (LS.to.mk (.b rfl rfl (.b rfl rfl (.b rfl rfl .n))) .n rfl)
        · refine Wp.block ?_
          refine let_e h fun x5 hx5 h => ?_
          refine Wp.seq ?_
          refine Wp.region ?_
          refine GoT.q rfl (QEx.move rfl (.tmp rfl)) rfl (lt_b rfl) ?_
          refine GoT.q rfl (QEx.move rfl (.tmp rfl)) rfl (lt_b rfl) ?_
          refine GoT.q rfl (QEx.orK rfl (.tmp rfl) (.tmp rfl)) rfl (lt_b rfl) ?_
          refine GoT.q rfl (QEx.eq (QEx.assign rfl (.tmp rfl)) (congrArg iAV hx5)) rfl (lt_b rfl) ?_
          refine GoT.nil ?_
          refine let_e h fun x6 hx6 h => ?_
          refine Wp.seq ?_
          refine Wp.region ?_
          refine GoT.q rfl (QEx.move rfl (.tmp rfl)) rfl (lt_b rfl) ?_
          refine GoT.q rfl (QEx.cvKK rfl uT123 (by rw [uT3]; rfl) (.tmp rfl)) rfl (lt_b rfl) ?_
          refine GoT.q rfl (QEx.move rfl (.tmp rfl)) rfl (lt_b rfl) ?_
          refine GoT.q rfl (QEx.cvKK rfl uT123 (by rw [uT3]; rfl) (.tmp rfl)) rfl (lt_b rfl) ?_
          refine GoT.q rfl (QEx.eq (QEx.mulK rfl (.tmp rfl) (.tmp rfl)) (congrArg (kAV .u64) hx6)) rfl (lt_b rfl) ?_
          refine GoT.q rfl (QEx.move rfl (.tmp rfl)) rfl (lt_b rfl) ?_
          refine GoT.q rfl (QEx.cvKK rfl uT123 (by rw [uT3]; rfl) (.tmp rfl)) rfl (lt_b rfl) ?_
          refine GoT.q rfl (QEx.leqK rfl (.tmp rfl) (.tmp rfl)) rfl (lt_b rfl) ?_
          refine GoT.nil ?_
          refine Wp.condS h rfl (fun h => ?_) (fun h => ?_)
          · refine Wp.region ?_
            refine GoT.q rfl (QEx.move rfl (.tmp rfl)) rfl (lt_b rfl) ?_
            refine GoT.q rfl (QEx.assign rfl (.tmp rfl)) rfl (lt_b rfl) ?_
            refine GoT.nil ?_
            exact Joined1.mk x5 [] [] h (LS.to.mk (.b rfl rfl (.b rfl rfl (.b rfl rfl .n))) .n rfl)
          · refine Wp.skip ?_
            exact Joined1.mk v2 [] [] h (LS.to.mk (.b rfl rfl (.b rfl rfl (.b rfl rfl .n))) .n rfl)
      · refine Wp.exit ?_
        exact Joined1.mk v2 [] [] h (LS.to.mk (.b rfl rfl .n) .n rfl)
theorem vec2_Length_ok {v_0 : Vec} {r : Int} (h : vec2_Length v_0 = some r) : FnR Tryz.prog 82 [(Vec.av v_0)] (iAV r) := by
  refine FnR.intro' (fn := Tryz.f82) (N := 7) Tryz.func82 rfl rfl (Nat.le_of_ble_eq_true rfl) [1] ?_
  refine Wp.seq ?_
  refine Wp.region ?_
  refine GoT.a rfl (AEx.bx (Z := (Vec.cells v_0)) rfl (.tmp rfl) rfl rfl rfl rfl) rfl (lt_b rfl) ?_
  refine GoT.q rfl (QEx.as (iAV 0) (QEx.assign rfl .con)) rfl (lt_b rfl) ?_
  refine GoT.nil ?_
  refine let_e h fun r1 hr1 h => ?_
  refine bind_e h fun r2 hr2 h => ?_
  refine Wp.seq ?_
  refine Wp.region ?_
  refine GoT.q rfl (QEx.as (Vec.av (⟨0, 0⟩ : Vec)) (QEx.buildZ rfl uT24 zt24 (by kernel_rfl) .nil)) rfl (lt_b rfl) ?_
  refine GoT.qr rfl rfl (QEx.ldP (Vec.cells v_0) (Vec.av v_0) rfl ag24 ts24 (.tmp rfl) (le_b rfl) rfl) rfl (lt_b rfl) ?_
  refine GoT.q rfl (QEx.cal0 (r := (iAV r1)) [(Vec.av (⟨0, 0⟩ : Vec)), (Vec.av v_0)] rfl Tryz.call130 (.cons (.tmp rfl) (.cons (.tmp rfl) .nil)) (vec2_DistanceSquared_ok hr1) rfl rfl) rfl (lt_b rfl) ?_
  refine GoT.q rfl (QEx.cal0 (r := (iAV r2)) [(iAV r1)] rfl Tryz.call129 (.cons (.tmp rfl) .nil) (fixed_Isqrt_ok hr2) rfl rfl) rfl (lt_b rfl) ?_
  refine GoT.q rfl (QEx.assign rfl (.tmp rfl)) rfl (lt_b rfl) ?_
  refine GoT.nil ?_
  refine Wp.ret ?_
  cases h
  exact LeafQ.ret [] (by decide) (.cons (.tmp rfl) .nil) rfl
theorem polygon_inReach_ok {v_0 : Vec} {r : Bool} (h : polygon_inReach v_0 = r) : FnR Tryz.prog 161 [(Vec.av v_0)] (boolAV r) := by
  refine FnR.intro' (fn := Tryz.f161) (N := 21) Tryz.func161 rfl rfl (Nat.le_of_ble_eq_true rfl) [1] ?_
  refine Wp.seq ?_
  refine Wp.region ?_
  refine GoT.a rfl (AEx.bx (Z := (Vec.cells v_0)) rfl (.tmp rfl) rfl rfl rfl rfl) rfl (lt_b rfl) ?_
  refine GoT.q rfl (QEx.as (boolAV false) (QEx.assign rfl .con)) rfl (lt_b rfl) ?_
  refine GoT.nil ?_
  refine let_e h fun x1 hx1 h => ?_
  refine Wp.seq ?_
  refine Wp.region ?_
  refine GoT.q rfl (QEx.fldP 0 rfl uT24 rfl ts3 rfl (.tmp rfl) rfl) rfl (lt_b rfl) ?_
  refine GoT.qr rfl rfl (QEx.ldP1 (Vec.cells v_0) (iAV v_0.X) rfl ag3 (.tmp rfl) rfl) rfl (lt_b rfl) ?_
  refine GoT.q rfl (QEx.geqK rfl (.tmp rfl) .con) rfl (lt_b rfl) ?_
  refine GoT.q rfl (QEx.move rfl (.tmp rfl)) rfl (lt_b rfl) ?_
  refine GoT.g rfl rfl rfl (fun hg => QEx.fldP 0 rfl uT24 rfl ts3 rfl (.tmp rfl) rfl) rfl (lt_b rfl) ?_
  refine GoT.gr rfl rfl rfl rfl (fun hg => QEx.ldP1 (Vec.cells v_0) (iAV v_0.X) rfl ag3 (.opt (.tmp rfl) hg) rfl) rfl (lt_b rfl) ?_
  refine GoT.g rfl rfl rfl (fun hg => QEx.leqK rfl (.opt (.tmp rfl) hg) .con) rfl (lt_b rfl) ?_
  refine GoT.q rfl (QEx.pickK rfl (.tmp rfl) (fun hp => (.opt (.tmp rfl) (beq_t hp))) (fun hp => .con)) rfl (lt_b rfl) ?_
  refine GoT.q rfl (QEx.move rfl (.tmp rfl)) rfl (lt_b rfl) ?_
  refine GoT.g rfl rfl rfl (fun hg => QEx.fldP 1 rfl uT24 rfl ts3 rfl (.tmp rfl) rfl) rfl (lt_b rfl) ?_
  refine GoT.gr rfl rfl rfl rfl (fun hg => QEx.ldP1 (Vec.cells v_0) (iAV v_0.Y) rfl ag3 (.opt (.tmp rfl) hg) rfl) rfl (lt_b rfl) ?_
  refine GoT.g rfl rfl rfl (fun hg => QEx.geqK rfl (.opt (.tmp rfl) hg) .con) rfl (lt_b rfl) ?_
  refine GoT.q rfl (QEx.pickK rfl (.tmp rfl) (fun hp => (.opt (.tmp rfl) (beq_t hp))) (fun hp => .con)) rfl (lt_b rfl) ?_
  refine GoT.q rfl (QEx.move rfl (.tmp rfl)) rfl (lt_b rfl) ?_
  refine GoT.g rfl rfl rfl (fun hg => QEx.fldP 1 rfl uT24 rfl ts3 rfl (.tmp rfl) rfl) rfl (lt_b rfl) ?_
  refine GoT.gr rfl rfl rfl rfl (fun hg => QEx.ldP1 (Vec.cells v_0) (iAV v_0.Y) rfl ag3 (.opt (.tmp rfl) hg) rfl) rfl (lt_b rfl) ?_
  refine GoT.g rfl rfl rfl (fun hg => QEx.leqK rfl (.opt (.tmp rfl) hg) .con) rfl (lt_b rfl) ?_
  refine GoT.q rfl (QEx.pickK rfl (.tmp rfl) (fun hp => (.opt (.tmp rfl) (beq_t hp))) (fun hp => .con)) rfl (lt_b rfl) ?_
  refine GoT.q rfl (QEx.eq (QEx.assign rfl (.tmp rfl)) (congrArg boolAV hx1)) rfl (lt_b rfl) ?_
  refine GoT.nil ?_
  refine Wp.ret ?_
  cases h
  exact LeafQ.ret [] (by decide) (.cons (.tmp rfl) .nil) rfl
theorem polygon_allInReach_ok {points : List Vec} {r : Bool} (h : polygon_allInReach points = some r) : FnR Tryz.prog 131 [((slAV 2 Vec.av) points)] (boolAV r) := by
  refine FnR.intro' (fn := Tryz.f131) (N := 15) Tryz.func131 rfl rfl (Nat.le_of_ble_eq_true rfl) [4, 5] ?_
  refine Wp.seq ?_
  refine Wp.region ?_
  refine GoT.q rfl (QEx.as (boolAV false) (QEx.assign rfl .con)) rfl (lt_b rfl) ?_
  refine GoT.nil ?_
  refine Wp.join0 (⟨[], [], [4, 5]⟩) (polygon_allInReach_j2 = some r) ?_ ?_
  · intro h
    refine Wp.seq ?_
    refine Wp.region ?_
    refine GoT.q rfl (QEx.as (boolAV true) (QEx.assign rfl .con)) rfl (lt_b rfl) ?_
    refine GoT.nil ?_
    refine Wp.ret ?_
    cases h
    exact LeafQ.ret [] (by decide) (.cons (.tmp rfl) .nil) rfl
  · refine Wp.seq ?_
    refine Wp.region ?_
    refine GoT.q rfl (QEx.move rfl (.tmp rfl)) rfl (lt_b rfl) ?_
    refine GoT.q rfl (QEx.lenL rfl ⟨_, uT31⟩ (.tmp rfl)) rfl (lt_b rfl) ?_
    refine GoT.q rfl (QEx.as (iAV 0) (QEx.move rfl .con)) rfl (lt_b rfl) ?_
    refine GoT.nil ?_
    refine Wp.block ?_
    refine Wp.loop1 (fun v1 => ⟨[(5, ((slAV 2 Vec.av) points)), (6, (iAV ((points).length : Int))), (7, (iAV v1))], [], [4, 5]⟩) (fun n v1 => polygon_allInReach_l1 points polygon_allInReach_j2 n v1 = some r) fuel 0 [] [] h (LS.to.mk (.b rfl rfl (.b rfl rfl (.b rfl rfl .n))) .n rfl) ?_
    rintro (_ | n2) v1 h
    · exact none_e h
    rw [polygon_allInReach_l1] at h
    refine Wp.seq ?_
    refine Wp.region ?_
    refine GoT.q rfl (QEx.lssK rfl (.tmp rfl) (.tmp rfl)) rfl (lt_b rfl) ?_
    refine GoT.nil ?_
    refine Wp.seq ?_
    refine Wp.condS h rfl (fun h => ?_) (fun h => ?_)
    · refine Wp.skip ?_
      refine Wp.seq ?_
      refine Wp.block ?_
      refine chk_e h fun c2 h => ?_
      refine let_e h fun x3 hx3 h => ?_
      refine Wp.seq ?_
      refine Wp.region ?_
      refine GoT.q rfl (QEx.as (.cptr (Vec.cells (ix points v1))) (QEx.idxL (E := Vec.av) rfl et31 (.tmp rfl) (.tmp rfl) c2)) rfl (lt_b rfl) ?_
      refine GoT.q rfl (QEx.ldC (x := (Vec.av (ix points v1))) rfl ag24 ts24 (.tmp rfl) (.inl ⟨rfl, rfl, rfl⟩)) rfl (lt_b rfl) ?_
      refine GoT.a rfl (AEx.alZ rfl zt24 rfl rfl) rfl (lt_b rfl) ?_
      refine GoT.s rfl (AEx.sto (Z := (Vec.cells x3)) rfl rfl ts24 (.tmp rfl) rfl (.tmp rfl) rfl rfl (le_b rfl) (congrArg (fun (x : Vec) => (Vec.cells x)) hx3)) rfl ?_
      refine GoT.nil ?_
      refine let_e h fun r4 hr4 h => ?_
      refine Wp.seq ?_
      refine Wp.region ?_
      refine GoT.qr rfl rfl (QEx.ldP (Vec.cells x3) (Vec.av x3) rfl ag24 ts24 (.tmp rfl) (le_b rfl) rfl) rfl (lt_b rfl) ?_
      refine GoT.q rfl (QEx.cal0 (r := (boolAV r4)) [(Vec.av x3)] rfl Tryz.call161 (.cons (.tmp rfl) .nil) (polygon_inReach_ok hr4) rfl rfl) rfl (lt_b rfl) ?_
      refine GoT.q rfl (QEx.notK rfl (.tmp rfl)) rfl (lt_b rfl) ?_
      refine GoT.nil ?_
      refine Wp.condS h rfl (fun h => ?_) (fun h => ?_)
      · refine Wp.seq ?_
        refine Wp.region ?_
        refine GoT.q rfl (QEx.as (boolAV false) (QEx.assign rfl .con)) rfl (lt_b rfl) ?_
        refine GoT.nil ?_
        refine Wp.ret ?_
        cases h
        exact LeafQ.ret [] (by decide) (.cons (.tmp rfl) .nil) rfl
      · refine Wp.skip ?_
        refine let_e h fun x5 hx5 h => ?_
        refine Wp.region ?_
        refine GoT.q rfl (QEx.addK rfl (.tmp rfl) .con) rfl (lt_b rfl) ?_
        refine GoT.q rfl (QEx.eq (QEx.move rfl (.tmp rfl)) (congrArg iAV hx5)) rfl (lt_b rfl) ?_
        refine GoT.nil ?_
        exact Round1.mk x5 [4] [] h (LS.to.mk (.b rfl rfl (.b rfl rfl (.b rfl rfl .n))) .n rfl)
    · refine Wp.exit ?_
      exact Joined0.mk [] [] h (LS.to.mk .n .n rfl)
theorem vec2_Orientation_ok {a : Vec} {b : Vec} {c_2 : Vec} {r : Int} (h : vec2_Orientation a b c_2 = r) : FnR Tryz.prog 113 [(Vec.av a), (Vec.av b), (Vec.av c_2)] (iAV r) := by
  refine FnR.intro' (fn := Tryz.f113) (N := 40) Tryz.func113 rfl rfl (Nat.le_of_ble_eq_true rfl) [3, 4, 5] ?_
  refine Wp.seq ?_
  refine Wp.region ?_
  refine GoT.a rfl (AEx.bx (Z := (Vec.cells a)) rfl (.tmp rfl) rfl rfl rfl rfl) rfl (lt_b rfl) ?_
  refine GoT.a rfl (AEx.bx (Z := (Vec.cells b)) rfl (.tmp rfl) rfl rfl rfl rfl) rfl (lt_b rfl) ?_
  refine GoT.a rfl (AEx.bx (Z := (Vec.cells c_2)) rfl (.tmp rfl) rfl rfl rfl rfl) rfl (lt_b rfl) ?_
  refine GoT.q rfl (QEx.as (iAV 0) (QEx.assign rfl .con)) rfl (lt_b rfl) ?_
  refine GoT.nil ?_
  refine let_e h fun r1 hr1 h => ?_
  refine let_e h fun r2 hr2 h => ?_
  refine let_e h fun r3 hr3 h => ?_
  refine let_e h fun x4 hx4 h => ?_
  refine let_e h fun x5 hx5 h => ?_
  refine let_e h fun x6 hx6 h => ?_
  refine Wp.seq ?_
  refine Wp.drawn2 (n0 := 9) [] mixed ?_
  refine GoD.qr rfl rfl (QEx.ldP (Vec.cells a) (Vec.av a) rfl ag24 ts24 (.tmp rfl) (le_b rfl) rfl) rfl (lt_b rfl) ?_
  refine GoD.q rfl (QEx.cal0 (r := (Vec.av r1)) [(Vec.av a)] rfl Tryz.call119 (.cons (.tmp rfl) .nil) (vec2_saturate_ok hr1) rfl rfl) rfl (lt_b rfl) ?_
  refine GoD.qr rfl rfl (QEx.ldP (Vec.cells b) (Vec.av b) rfl ag24 ts24 (.tmp rfl) (le_b rfl) rfl) rfl (lt_b rfl) ?_
  refine GoD.q rfl (QEx.cal0 (r := (Vec.av r2)) [(Vec.av b)] rfl Tryz.call119 (.cons (.tmp rfl) .nil) (vec2_saturate_ok hr2) rfl rfl) rfl (lt_b rfl) ?_
  refine GoD.qr rfl rfl (QEx.ldP (Vec.cells c_2) (Vec.av c_2) rfl ag24 ts24 (.tmp rfl) (le_b rfl) rfl) rfl (lt_b rfl) ?_
  refine GoD.q rfl (QEx.cal0 (r := (Vec.av r3)) [(Vec.av c_2)] rfl Tryz.call119 (.cons (.tmp rfl) .nil) (vec2_saturate_ok hr3) rfl rfl) rfl (lt_b rfl) ?_
  refine GoD.s rfl (Z := (Vec.cells x4)) rfl rfl ts24 (.tmp rfl) rfl (.tmp rfl) rfl rfl (le_b rfl) (congrArg (fun (x : Vec) => (Vec.cells x)) hx4) ?_
  refine GoD.s rfl (Z := (Vec.cells x5)) rfl rfl ts24 (.tmp rfl) rfl (.tmp rfl) rfl rfl (le_b rfl) (congrArg (fun (x : Vec) => (Vec.cells x)) hx5) ?_
  refine GoD.s rfl (Z := (Vec.cells x6)) rfl rfl ts24 (.tmp rfl) rfl (.tmp rfl) rfl rfl (le_b rfl) (congrArg (fun (x : Vec) => (Vec.cells x)) hx6) ?_
  refine GoD.nil ⟨by kernel_rfl, by kernel_rfl, by kernel_rfl, by kernel_rfl, by kernel_rfl, ?_⟩
  refine GoT.nil ?_
  refine let_e h fun x7 hx7 h => ?_
  refine Wp.seq ?_
  refine Wp.region ?_
  refine GoT.q rfl (QEx.fldP 0 rfl uT24 rfl ts3 rfl (.tmp rfl) rfl) rfl (lt_b rfl) ?_
  refine GoT.qr rfl rfl (QEx.ldP1 (Vec.cells x5) (iAV x5.X) rfl ag3 (.tmp rfl) rfl) rfl (lt_b rfl) ?_
  refine GoT.q rfl (QEx.fldP 0 rfl uT24 rfl ts3 rfl (.tmp rfl) rfl) rfl (lt_b rfl) ?_
  refine GoT.qr rfl rfl (QEx.ldP1 (Vec.cells x4) (iAV x4.X) rfl ag3 (.tmp rfl) rfl) rfl (lt_b rfl) ?_
  refine GoT.q rfl (QEx.subK rfl (.tmp rfl) (.tmp rfl)) rfl (lt_b rfl) ?_
  refine GoT.q rfl (QEx.fldP 1 rfl uT24 rfl ts3 rfl (.tmp rfl) rfl) rfl (lt_b rfl) ?_
  refine GoT.qr rfl rfl (QEx.ldP1 (Vec.cells x6) (iAV x6.Y) rfl ag3 (.tmp rfl) rfl) rfl (lt_b rfl) ?_
  refine GoT.q rfl (QEx.fldP 1 rfl uT24 rfl ts3 rfl (.tmp rfl) rfl) rfl (lt_b rfl) ?_
  refine GoT.qr rfl rfl (QEx.ldP1 (Vec.cells x4) (iAV x4.Y) rfl ag3 (.tmp rfl) rfl) rfl (lt_b rfl) ?_
  refine GoT.q rfl (QEx.subK rfl (.tmp rfl) (.tmp rfl)) rfl (lt_b rfl) ?_
  refine GoT.q rfl (QEx.mulK rfl (.tmp rfl) (.tmp rfl)) rfl (lt_b rfl) ?_
  refine GoT.q rfl (QEx.fldP 1 rfl uT24 rfl ts3 rfl (.tmp rfl) rfl) rfl (lt_b rfl) ?_
  refine GoT.qr rfl rfl (QEx.ldP1 (Vec.cells x5) (iAV x5.Y) rfl ag3 (.tmp rfl) rfl) rfl (lt_b rfl) ?_
  refine GoT.q rfl (QEx.fldP 1 rfl uT24 rfl ts3 rfl (.tmp rfl) rfl) rfl (lt_b rfl) ?_
  refine GoT.qr rfl rfl (QEx.ldP1 (Vec.cells x4) (iAV x4.Y) rfl ag3 (.tmp rfl) rfl) rfl (lt_b rfl) ?_
  refine GoT.q rfl (QEx.subK rfl (.tmp rfl) (.tmp rfl)) rfl (lt_b rfl) ?_
  refine GoT.q rfl (QEx.fldP 0 rfl uT24 rfl ts3 rfl (.tmp rfl) rfl) rfl (lt_b rfl) ?_
  refine GoT.qr rfl rfl (QEx.ldP1 (Vec.cells x6) (iAV x6.X) rfl ag3 (.tmp rfl) rfl) rfl (lt_b rfl) ?_
  refine GoT.q rfl (QEx.fldP 0 rfl uT24 rfl ts3 rfl (.tmp rfl) rfl) rfl (lt_b rfl) ?_
  refine GoT.qr rfl rfl (QEx.ldP1 (Vec.cells x4) (iAV x4.X) rfl ag3 (.tmp rfl) rfl) rfl (lt_b rfl) ?_
  refine GoT.q rfl (QEx.subK rfl (.tmp rfl) (.tmp rfl)) rfl (lt_b rfl) ?_
  refine GoT.q rfl (QEx.mulK rfl (.tmp rfl) (.tmp rfl)) rfl (lt_b rfl) ?_
  refine GoT.q rfl (QEx.eq (QEx.subK rfl (.tmp rfl) (.tmp rfl)) (congrArg iAV hx7)) rfl (lt_b rfl) ?_
  refine GoT.q rfl (QEx.assign rfl (.tmp rfl)) rfl (lt_b rfl) ?_
  refine GoT.nil ?_
  refine let_e h fun x8 hx8 h => ?_
  refine Wp.seq ?_
  refine Wp.region ?_
  refine GoT.q rfl (QEx.move rfl (.tmp rfl)) rfl (lt_b rfl) ?_
  refine GoT.q rfl (QEx.maxK rfl .con (.tmp rfl)) rfl (lt_b rfl) ?_
  refine GoT.q rfl (QEx.minK rfl .con (.tmp rfl)) rfl (lt_b rfl) ?_
  refine GoT.q rfl (QEx.eq (QEx.assign rfl (.tmp rfl)) (congrArg iAV hx8)) rfl (lt_b rfl) ?_
  refine GoT.nil ?_
  refine Wp.ret ?_
  cases h
  exact LeafQ.ret [] (by decide) (.cons (.tmp rfl) .nil) rfl
theorem polygon_IsConvex_ok {vertices : List Vec} {r : Bool} (h : polygon_IsConvex vertices = some r) : FnR Tryz.prog 83 [((slAV 2 Vec.av) vertices)] (boolAV r) := by
  refine FnR.intro' (fn := Tryz.f83) (N := 60) Tryz.func83 rfl rfl (Nat.le_of_ble_eq_true rfl) [5, 8, 9, 18, 22, 33, 50] ?_
  refine Wp.seq ?_
  refine Wp.region ?_
  refine GoT.q rfl (QEx.as (boolAV false) (QEx.assign rfl .con)) rfl (lt_b rfl) ?_
  refine GoT.nil ?_
  refine Wp.seq ?_
  refine Wp.region ?_
  refine GoT.q rfl (QEx.move rfl (.tmp rfl)) rfl (lt_b rfl) ?_
  refine GoT.q rfl (QEx.lenL rfl ⟨_, uT31⟩ (.tmp rfl)) rfl (lt_b rfl) ?_
  refine GoT.q rfl (QEx.assign rfl (.tmp rfl)) rfl (lt_b rfl) ?_
  refine GoT.nil ?_
  refine Wp.seq ?_
  refine bind_e h fun r1 hr1 h => ?_
  refine Wp.seq ?_
  refine Wp.region ?_
  refine GoT.q rfl (QEx.move rfl (.tmp rfl)) rfl (lt_b rfl) ?_
  refine GoT.q rfl (QEx.lssK rfl (.tmp rfl) .con) rfl (lt_b rfl) ?_
  refine GoT.q rfl (QEx.move rfl (.tmp rfl)) rfl (lt_b rfl) ?_
  refine GoT.g rfl rfl rfl (fun hg => QEx.move rfl (.tmp rfl)) rfl (lt_b rfl) ?_
  refine GoT.g rfl rfl rfl (fun hg => QEx.gtrK rfl (.opt (.tmp rfl) hg) .con) rfl (lt_b rfl) ?_
  refine GoT.q rfl (QEx.pickK rfl (.tmp rfl) (fun hp => .con) (fun hp => (.opt (.tmp rfl) (beq_f hp)))) rfl (lt_b rfl) ?_
  refine GoT.q rfl (QEx.move rfl (.tmp rfl)) rfl (lt_b rfl) ?_
  refine GoT.g rfl rfl rfl (fun hg => QEx.move rfl (.tmp rfl)) rfl (lt_b rfl) ?_
  refine GoT.g rfl rfl rfl (fun hg => QEx.cal0 (r := (boolAV r1)) [((slAV 2 Vec.av) vertices)] rfl Tryz.call131 (.cons (.opt (.tmp rfl) hg) .nil) (polygon_allInReach_ok (gcall hr1 hg)) rfl rfl) rfl (lt_b rfl) ?_
  refine GoT.g rfl rfl rfl (fun hg => QEx.notK rfl (.opt (.tmp rfl) hg)) rfl (lt_b rfl) ?_
  refine GoT.q rfl (QEx.pickK rfl (.tmp rfl) (fun hp => .con) (fun hp => (.opt (.tmp rfl) (beq_f hp)))) rfl (lt_b rfl) ?_
  refine GoT.nil ?_
  refine Wp.condS h rfl (fun h => ?_) (fun h => ?_)
  · refine Wp.seq ?_
    refine Wp.region ?_
    refine GoT.q rfl (QEx.as (boolAV false) (QEx.assign rfl .con)) rfl (lt_b rfl) ?_
    refine GoT.nil ?_
    refine Wp.ret ?_
    cases h
    exact LeafQ.ret [] (by decide) (.cons (.tmp rfl) .nil) rfl
  · refine Wp.skip ?_
    refine Wp.join0 (⟨[], [], [5, 8, 9, 18, 22, 33, 50]⟩) (polygon_IsConvex_j4 = some r) ?_ ?_
    · intro h
      refine Wp.seq ?_
      refine Wp.region ?_
      refine GoT.q rfl (QEx.as (boolAV true) (QEx.assign rfl .con)) rfl (lt_b rfl) ?_
      refine GoT.nil ?_
      refine Wp.ret ?_
      cases h
      exact LeafQ.ret [] (by decide) (.cons (.tmp rfl) .nil) rfl
    · refine Wp.seq ?_
      refine Wp.region ?_
      refine GoT.q rfl (QEx.move rfl (.tmp rfl)) rfl (lt_b rfl) ?_
      refine GoT.q rfl (QEx.lenL rfl ⟨_, uT31⟩ (.tmp rfl)) rfl (lt_b rfl) ?_
      refine GoT.q rfl (QEx.as (iAV 0) (QEx.move rfl .con)) rfl (lt_b rfl) ?_
      refine GoT.nil ?_
      refine Wp.block ?_
      refine Wp.loop1 (fun v2 => ⟨[(0, ((slAV 2 Vec.av) vertices)), (3, (iAV ((vertices).length : Int))), (22, ((slAV 2 Vec.av) vertices)), (23, (iAV ((vertices).length : Int))), (24, (iAV v2))], [], [5, 8, 9, 18, 22, 33, 50]⟩) (fun n v2 => polygon_IsConvex_l3 vertices polygon_IsConvex_j4 n v2 = some r) fuel 0 [] [] h (LS.to.mk (.b rfl rfl (.b rfl rfl (.b rfl rfl (.b rfl rfl (.b rfl rfl .n))))) .n rfl) ?_
      rintro (_ | n2) v2 h
      · exact none_e h
      rw [polygon_IsConvex_l3] at h
      refine Wp.seq ?_
      refine Wp.region ?_
      refine GoT.q rfl (QEx.lssK rfl (.tmp rfl) (.tmp rfl)) rfl (lt_b rfl) ?_
      refine GoT.nil ?_
      refine Wp.seq ?_
      refine Wp.condS h rfl (fun h => ?_) (fun h => ?_)
      · refine Wp.skip ?_
        refine Wp.join0 (⟨[(0, ((slAV 2 Vec.av) vertices)), (3, (iAV ((vertices).length : Int))), (22, ((slAV 2 Vec.av) vertices)), (23, (iAV ((vertices).length : Int))), (24, (iAV v2))], [], [5, 8, 9, 18, 22, 33, 50]⟩) ((polygon_IsConvex_j2 v2 (polygon_IsConvex_l3 vertices polygon_IsConvex_j4 n2)) = some r) ?_ ?_
        · intro h
          refine let_e h fun x13 hx13 h => ?_
          refine Wp.region ?_
          refine GoT.q rfl (QEx.addK rfl (.tmp rfl) .con) rfl (lt_b rfl) ?_
          refine GoT.q rfl (QEx.eq (QEx.move rfl (.tmp rfl)) (congrArg iAV hx13)) rfl (lt_b rfl) ?_
          refine GoT.nil ?_
          exact Round1.mk x13 [] [] h (LS.to.mk (.b rfl rfl (.b rfl rfl (.b rfl rfl (.b rfl rfl (.b rfl rfl .n))))) .n rfl)
        · refine Wp.block ?_
          refine chk_e h fun c3 h => ?_
          refine let_e h fun x4 hx4 h => ?_
          refine Wp.seq ?_
          refine Wp.region ?_
          refine GoT.q rfl (QEx.move rfl (.tmp rfl)) rfl (lt_b rfl) ?_
          refine GoT.q rfl (QEx.as (.cptr (Vec.cells (ix vertices v2))) (QEx.idxL (E := Vec.av) rfl et31 (.tmp rfl) (.tmp rfl) c3)) rfl (lt_b rfl) ?_
          refine GoT.q rfl (QEx.ldC (x := (Vec.av (ix vertices v2))) rfl ag24 ts24 (.tmp rfl) (.inl ⟨rfl, rfl, rfl⟩)) rfl (lt_b rfl) ?_
          refine GoT.a rfl (AEx.alZ rfl zt24 rfl rfl) rfl (lt_b rfl) ?_
          refine GoT.q rfl (QEx.assign rfl (.tmp rfl)) rfl (lt_b rfl) ?_
          refine GoT.s rfl (AEx.sto (Z := (Vec.cells x4)) rfl rfl ts24 (.tmp rfl) rfl (.tmp rfl) rfl rfl (le_b rfl) (congrArg (fun (x : Vec) => (Vec.cells x)) hx4)) rfl ?_
          refine GoT.nil ?_
          refine chk_e h fun c5 h => ?_
          refine let_e h fun x6 hx6 h => ?_
          refine Wp.seq ?_
          refine Wp.region ?_
          refine GoT.q rfl (QEx.move rfl (.tmp rfl)) rfl (lt_b rfl) ?_
          refine GoT.q rfl (QEx.addK rfl (.tmp rfl) .con) rfl (lt_b rfl) ?_
          refine GoT.q rfl (QEx.move rfl (.tmp rfl)) rfl (lt_b rfl) ?_
          refine GoT.q rfl (QEx.remK rfl (.tmp rfl) (.tmp rfl) c5) rfl (lt_b rfl) ?_
          refine GoT.q rfl (QEx.eq (QEx.assign rfl (.tmp rfl)) (congrArg iAV hx6)) rfl (lt_b rfl) ?_
          refine GoT.nil ?_
          refine Wp.seq ?_
          refine Wp.region ?_
          refine GoT.q rfl (QEx.move rfl (.tmp rfl)) rfl (lt_b rfl) ?_
          refine GoT.q rfl (QEx.lenL rfl ⟨_, uT31⟩ (.tmp rfl)) rfl (lt_b rfl) ?_
          refine GoT.q rfl (QEx.as (iAV 0) (QEx.move rfl .con)) rfl (lt_b rfl) ?_
          refine GoT.nil ?_
          refine Wp.block ?_
          refine Wp.loop1 (fun v7 => ⟨[(0, ((slAV 2 Vec.av) vertices)), (3, (iAV ((vertices).length : Int))), (4, (iAV v2)), (5, (.ptr 5 0)), (6, (iAV x6)), (22, ((slAV 2 Vec.av) vertices)), (23, (iAV ((vertices).length : Int))), (24, (iAV v2)), (33, ((slAV 2 Vec.av) vertices)), (34, (iAV ((vertices).length : Int))), (35, (iAV v7))], [(5, .cells (Vec.cells x4))], [8, 9, 18, 22, 33, 50]⟩) (fun n v7 => polygon_IsConvex_l1 vertices v2 (polygon_IsConvex_j2 v2 (polygon_IsConvex_l3 vertices polygon_IsConvex_j4 n2)) x4 x6 n v7 = some r) fuel 0 [] [] h (LS.to.mk (.b rfl rfl (.b rfl rfl (.b rfl rfl (.r rfl rfl (.b rfl rfl (.b rfl rfl (.b rfl rfl (.b rfl rfl (.b rfl rfl (.b rfl rfl (.b rfl rfl .n))))))))))) (.b rfl rfl rfl .n) rfl) ?_
          rintro (_ | n4) v7 h
          · exact none_e h
          rw [polygon_IsConvex_l1] at h
          refine Wp.seq ?_
          refine Wp.region ?_
          refine GoT.q rfl (QEx.lssK rfl (.tmp rfl) (.tmp rfl)) rfl (lt_b rfl) ?_
          refine GoT.nil ?_
          refine Wp.seq ?_
          refine Wp.condS h rfl (fun h => ?_) (fun h => ?_)
          · refine Wp.skip ?_
            refine Wp.seq ?_
            refine Wp.block ?_
            refine chk_e h fun c8 h => ?_
            refine let_e h fun x9 hx9 h => ?_
            refine Wp.seq ?_
            refine Wp.region ?_
            refine GoT.q rfl (QEx.move rfl (.tmp rfl)) rfl (lt_b rfl) ?_
            refine GoT.q rfl (QEx.as (.cptr (Vec.cells (ix vertices v7))) (QEx.idxL (E := Vec.av) rfl et31 (.tmp rfl) (.tmp rfl) c8)) rfl (lt_b rfl) ?_
            refine GoT.q rfl (QEx.ldC (x := (Vec.av (ix vertices v7))) rfl ag24 ts24 (.tmp rfl) (.inl ⟨rfl, rfl, rfl⟩)) rfl (lt_b rfl) ?_
            refine GoT.a rfl (AEx.alZ rfl zt24 rfl rfl) rfl (lt_b rfl) ?_
            refine GoT.q rfl (QEx.assign rfl (.tmp rfl)) rfl (lt_b rfl) ?_
            refine GoT.s rfl (AEx.sto (Z := (Vec.cells x9)) rfl rfl ts24 (.tmp rfl) rfl (.tmp rfl) rfl rfl (le_b rfl) (congrArg (fun (x : Vec) => (Vec.cells x)) hx9)) rfl ?_
            refine GoT.nil ?_
            refine chk_e h fun c10 h => ?_
            refine let_e h fun r11 hr11 h => ?_
            refine Wp.seq ?_
            refine Wp.drawn2 (n0 := 18) [9, 18, 22, 33, 50] mixed ?_
            refine GoD.q rfl (QEx.move rfl (.tmp rfl)) rfl (lt_b rfl) ?_
            refine GoD.q rfl (QEx.move rfl (.tmp rfl)) rfl (lt_b rfl) ?_
            refine GoD.q rfl (QEx.neqK rfl (.tmp rfl) (.tmp rfl)) rfl (lt_b rfl) ?_
            refine GoD.q rfl (QEx.move rfl (.tmp rfl)) rfl (lt_b rfl) ?_
            refine GoD.g rfl rfl rfl (fun hg => QEx.move rfl (.tmp rfl)) rfl (lt_b rfl) ?_
            refine GoD.g rfl rfl rfl (fun hg => QEx.move rfl (.tmp rfl)) rfl (lt_b rfl) ?_
            refine GoD.g rfl rfl rfl (fun hg => QEx.neqK rfl (.opt (.tmp rfl) hg) (.opt (.tmp rfl) hg)) rfl (lt_b rfl) ?_
            refine GoD.q rfl (QEx.pickK rfl (.tmp rfl) (fun hp => (.opt (.tmp rfl) (beq_t hp))) (fun hp => .con)) rfl (lt_b rfl) ?_
            refine GoD.q rfl (QEx.move rfl (.tmp rfl)) rfl (lt_b rfl) ?_
            refine GoD.gr rfl rfl rfl rfl (fun hg => QEx.ldP (Vec.cells x4) (Vec.av x4) rfl ag24 ts24 (.tmp rfl) (le_b rfl) rfl) rfl (lt_b rfl) ?_
            refine GoD.g rfl rfl rfl (fun hg => QEx.move rfl (.tmp rfl)) rfl (lt_b rfl) ?_
            refine GoD.g rfl rfl rfl (fun hg => QEx.move rfl (.tmp rfl)) rfl (lt_b rfl) ?_
            refine GoD.g rfl rfl rfl (fun hg => QEx.as (.cptr (Vec.cells (ix vertices x6))) (QEx.idxL (E := Vec.av) rfl et31 (.opt (.tmp rfl) hg) (.opt (.tmp rfl) hg) (c10 hg))) rfl (lt_b rfl) ?_
            refine GoD.g rfl rfl rfl (fun hg => QEx.ldC (x := (Vec.av (ix vertices x6))) rfl ag24 ts24 (.opt (.tmp rfl) hg) (.inl ⟨rfl, rfl, rfl⟩)) rfl (lt_b rfl) ?_
            refine GoD.gr rfl rfl rfl rfl (fun hg => QEx.ldP (Vec.cells x9) (Vec.av x9) rfl ag24 ts24 (.tmp rfl) (le_b rfl) rfl) rfl (lt_b rfl) ?_
            refine GoD.g rfl rfl rfl (fun hg => QEx.cal0 (r := (iAV r11)) [(Vec.av x4), (Vec.av (ix vertices x6)), (Vec.av x9)] rfl Tryz.call113 (.cons (.opt (.tmp rfl) hg) (.cons (.opt (.tmp rfl) hg) (.cons (.opt (.tmp rfl) hg) .nil))) (vec2_Orientation_ok hr11) rfl rfl) rfl (lt_b rfl) ?_
            refine GoD.g rfl rfl rfl (fun hg => QEx.neqK rfl (.opt (.tmp rfl) hg) .con) rfl (lt_b rfl) ?_
            refine GoD.q rfl (QEx.pickK rfl (.tmp rfl) (fun hp => (.opt (.tmp rfl) (beq_t hp))) (fun hp => .con)) rfl (lt_b rfl) ?_
            refine GoD.nil ⟨by kernel_rfl, by kernel_rfl, by kernel_rfl, by kernel_rfl, by kernel_rfl, ?_⟩
            refine GoT.nil ?_
            refine Wp.condS h rfl (fun h => ?_) (fun h => ?_)
            · refine Wp.seq ?_
              refine Wp.region ?_
              refine GoT.q rfl (QEx.as (boolAV false) (QEx.assign rfl .con)) rfl (lt_b rfl) ?_
              refine GoT.nil ?_
              refine Wp.ret ?_
              cases h
              exact LeafQ.ret [] (by decide) (.cons (.tmp rfl) .nil) rfl
            · refine Wp.skip ?_
              refine let_e h fun x12 hx12 h => ?_
              refine Wp.region ?_
              refine GoT.q rfl (QEx.addK rfl (.tmp rfl) .con) rfl (lt_b rfl) ?_
              refine GoT.q rfl (QEx.eq (QEx.move rfl (.tmp rfl)) (congrArg iAV hx12)) rfl (lt_b rfl) ?_
              refine GoT.nil ?_
              exact Round1.mk x12 [8] [] h (LS.to.mk (.b rfl rfl (.b rfl rfl (.b rfl rfl (.r rfl rfl (.b rfl rfl (.b rfl rfl (.b rfl rfl (.b rfl rfl (.b rfl rfl (.b rfl rfl (.b rfl rfl .n))))))))))) (.b rfl rfl rfl .n) rfl)
          · refine Wp.exit ?_
            exact Joined0.mk [5] [] h (LS.to.mk (.b rfl rfl (.b rfl rfl (.b rfl rfl (.b rfl rfl (.b rfl rfl .n))))) .n rfl)
      · refine Wp.exit ?_
        exact Joined0.mk [] [] h (LS.to.mk .n .n rfl)
theorem polygon_ShortestEdge_ok {vertices : List Vec} {r : Int} (h : polygon_ShortestEdge vertices = some r) : FnR Tryz.prog 84 [((slAV 2 Vec.av) vertices)] (iAV r) := by
  refine FnR.intro' (fn := Tryz.f84) (N := 31) Tryz.func84 rfl rfl (Nat.le_of_ble_eq_true rfl) [5, 6, 9, 17, 20] ?_
  refine Wp.seq ?_
  refine Wp.region ?_
  refine GoT.q rfl (QEx.as (iAV 0) (QEx.assign rfl .con)) rfl (lt_b rfl) ?_
  refine GoT.nil ?_
  refine Wp.seq ?_
  refine bind_e h fun r1 hr1 h => ?_
  refine Wp.seq ?_
  refine Wp.region ?_
  refine GoT.q rfl (QEx.move rfl (.tmp rfl)) rfl (lt_b rfl) ?_
  refine GoT.q rfl (QEx.cal0 (r := (boolAV r1)) [((slAV 2 Vec.av) vertices)] rfl Tryz.call83 (.cons (.tmp rfl) .nil) (polygon_IsConvex_ok hr1) rfl rfl) rfl (lt_b rfl) ?_
  refine GoT.q rfl (QEx.notK rfl (.tmp rfl)) rfl (lt_b rfl) ?_
  refine GoT.nil ?_
  refine Wp.condS h rfl (fun h => ?_) (fun h => ?_)
  · refine Wp.seq ?_
    refine Wp.region ?_
    refine GoT.q rfl (QEx.as (iAV 0) (QEx.assign rfl .con)) rfl (lt_b rfl) ?_
    refine GoT.nil ?_
    refine Wp.ret ?_
    cases h
    exact LeafQ.ret [] (by decide) (.cons (.tmp rfl) .nil) rfl
  · refine Wp.skip ?_
    refine Wp.seq ?_
    refine Wp.region ?_
    refine GoT.q rfl (QEx.as (iAV 536870911) (QEx.assign rfl .con)) rfl (lt_b rfl) ?_
    refine GoT.nil ?_
    refine Wp.join1 (fun v2 => ⟨[(3, (iAV v2))], [], [5, 6, 9, 17, 20]⟩) (fun v2 => polygon_ShortestEdge_j2 v2 = some r) ?_ ?_
    · intro v2 h
      refine Wp.seq ?_
      refine Wp.region ?_
      refine GoT.q rfl (QEx.move rfl (.tmp rfl)) rfl (lt_b rfl) ?_
      refine GoT.q rfl (QEx.assign rfl (.tmp rfl)) rfl (lt_b rfl) ?_
      refine GoT.nil ?_
      refine Wp.ret ?_
      cases h
      exact LeafQ.ret [] (by decide) (.cons (.tmp rfl) .nil) rfl
    · refine Wp.seq ?_
      refine Wp.region ?_
      refine GoT.q rfl (QEx.move rfl (.tmp rfl)) rfl (lt_b rfl) ?_
      refine GoT.q rfl (QEx.lenL rfl ⟨_, uT31⟩ (.tmp rfl)) rfl (lt_b rfl) ?_
      refine GoT.q rfl (QEx.as (iAV 0) (QEx.move rfl .con)) rfl (lt_b rfl) ?_
      refine GoT.nil ?_
      refine Wp.block ?_
      refine Wp.loop2 (fun v3 v4 => ⟨[(0, ((slAV 2 Vec.av) vertices)), (3, (iAV v3)), (9, ((slAV 2 Vec.av) vertices)), (10, (iAV ((vertices).length : Int))), (11, (iAV v4))], [], [5, 6, 9, 17, 20]⟩) (fun n v3 v4 => polygon_ShortestEdge_l1 vertices polygon_ShortestEdge_j2 n v3 v4 = some r) fuel 536870911 0 [] [] h (LS.to.mk (.b rfl rfl (.b rfl rfl (.b rfl rfl (.b rfl rfl (.b rfl rfl .n))))) .n rfl) ?_
      rintro (_ | n2) v3 v4 h
      · exact none_e h
      rw [polygon_ShortestEdge_l1] at h
      refine Wp.seq ?_
      refine Wp.region ?_
      refine GoT.q rfl (QEx.lssK rfl (.tmp rfl) (.tmp rfl)) rfl (lt_b rfl) ?_
      refine GoT.nil ?_
      refine Wp.seq ?_
      refine Wp.condS h rfl (fun h => ?_) (fun h => ?_)
      · refine Wp.skip ?_
        refine Wp.seq ?_
        refine Wp.block ?_
        refine chk_e h fun c5 h => ?_
        refine let_e h fun x6 hx6 h => ?_
        refine Wp.seq ?_
        refine Wp.region ?_
        refine GoT.q rfl (QEx.move rfl (.tmp rfl)) rfl (lt_b rfl) ?_
        refine GoT.q rfl (QEx.as (.cptr (Vec.cells (ix vertices v4))) (QEx.idxL (E := Vec.av) rfl et31 (.tmp rfl) (.tmp rfl) c5)) rfl (lt_b rfl) ?_
        refine GoT.q rfl (QEx.ldC (x := (Vec.av (ix vertices v4))) rfl ag24 ts24 (.tmp rfl) (.inl ⟨rfl, rfl, rfl⟩)) rfl (lt_b rfl) ?_
        refine GoT.a rfl (AEx.alZ rfl zt24 rfl rfl) rfl (lt_b rfl) ?_
        refine GoT.q rfl (QEx.assign rfl (.tmp rfl)) rfl (lt_b rfl) ?_
        refine GoT.s rfl (AEx.sto (Z := (Vec.cells x6)) rfl rfl ts24 (.tmp rfl) rfl (.tmp rfl) rfl rfl (le_b rfl) (congrArg (fun (x : Vec) => (Vec.cells x)) hx6)) rfl ?_
        refine GoT.nil ?_
        refine chk_e h fun c7 h => ?_
        refine chk_e h fun c8 h => ?_
        refine let_e h fun r9 hr9 h => ?_
        refine bind_e h fun r10 hr10 h => ?_
        refine let_e h fun x11 hx11 h => ?_
        refine Wp.drawn2 (n0 := 14) [6, 9, 17, 20] mixed ?_
        refine GoD.q rfl (QEx.move rfl (.tmp rfl)) rfl (lt_b rfl) ?_
        refine GoD.q rfl (QEx.move rfl (.tmp rfl)) rfl (lt_b rfl) ?_
        refine GoD.q rfl (QEx.move rfl (.tmp rfl)) rfl (lt_b rfl) ?_
        refine GoD.q rfl (QEx.addK rfl (.tmp rfl) .con) rfl (lt_b rfl) ?_
        refine GoD.q rfl (QEx.move rfl (.tmp rfl)) rfl (lt_b rfl) ?_
        refine GoD.q rfl (QEx.lenL rfl ⟨_, uT31⟩ (.tmp rfl)) rfl (lt_b rfl) ?_
        refine GoD.q rfl (QEx.remK rfl (.tmp rfl) (.tmp rfl) c7) rfl (lt_b rfl) ?_
        refine GoD.q rfl (QEx.as (.cptr (Vec.cells (ix vertices (Int.tmod (w64 (v4 + 1)) ((vertices).length : Int))))) (QEx.idxL (E := Vec.av) rfl et31 (.tmp rfl) (.tmp rfl) c8)) rfl (lt_b rfl) ?_
        refine GoD.q rfl (QEx.ldC (x := (Vec.av (ix vertices (Int.tmod (w64 (v4 + 1)) ((vertices).length : Int))))) rfl ag24 ts24 (.tmp rfl) (.inl ⟨rfl, rfl, rfl⟩)) rfl (lt_b rfl) ?_
        refine GoD.qr rfl rfl (QEx.ldP (Vec.cells x6) (Vec.av x6) rfl ag24 ts24 (.tmp rfl) (le_b rfl) rfl) rfl (lt_b rfl) ?_
        refine GoD.q rfl (QEx.cal0 (r := (Vec.av r9)) [(Vec.av (ix vertices (Int.tmod (w64 (v4 + 1)) ((vertices).length : Int)))), (Vec.av x6)] rfl Tryz.call51 (.cons (.tmp rfl) (.cons (.tmp rfl) .nil)) (vec2_Sub_ok hr9) rfl rfl) rfl (lt_b rfl) ?_
        refine GoD.q rfl (QEx.cal0 (r := (iAV r10)) [(Vec.av r9)] rfl Tryz.call82 (.cons (.tmp rfl) .nil) (vec2_Length_ok hr10) rfl rfl) rfl (lt_b rfl) ?_
        refine GoD.q rfl (QEx.minK rfl (.tmp rfl) (.tmp rfl)) rfl (lt_b rfl) ?_
        refine GoD.q rfl (QEx.eq (QEx.assign rfl (.tmp rfl)) (congrArg iAV hx11)) rfl (lt_b rfl) ?_
        refine GoD.nil ⟨by kernel_rfl, by kernel_rfl, by kernel_rfl, by kernel_rfl, by kernel_rfl, ?_⟩
        refine GoT.nil ?_
        refine let_e h fun x12 hx12 h => ?_
        refine Wp.region ?_
        refine GoT.q rfl (QEx.addK rfl (.tmp rfl) .con) rfl (lt_b rfl) ?_
        refine GoT.q rfl (QEx.eq (QEx.move rfl (.tmp rfl)) (congrArg iAV hx12)) rfl (lt_b rfl) ?_
        refine GoT.nil ?_
        exact Round2.mk x11 x12 [5] [] h (LS.to.mk (.b rfl rfl (.b rfl rfl (.b rfl rfl (.b rfl rfl (.b rfl rfl .n))))) .n rfl)
      · refine Wp.exit ?_
        exact Joined1.mk v3 [] [] h (LS.to.mk (.b rfl rfl .n) .n rfl)
theorem fixed_RoundDiv_ok {n_0 : Int} {d : Int} {r : Int} (h : fixed_RoundDiv n_0 d = some r) : FnR Tryz.prog 118 [(iAV n_0), (iAV d)] (iAV r) := by
  refine FnR.intro' (fn := Tryz.f118) (N := 45) Tryz.func118 rfl rfl (Nat.le_of_ble_eq_true rfl) [] ?_
  refine Wp.seq ?_
  refine Wp.region ?_
  refine GoT.q rfl (QEx.as (iAV 0) (QEx.assign rfl .con)) rfl (lt_b rfl) ?_
  refine GoT.nil ?_
  refine Wp.seq ?_
  refine Wp.seq ?_
  refine Wp.region ?_
  refine GoT.q rfl (QEx.move rfl (.tmp rfl)) rfl (lt_b rfl) ?_
  refine GoT.q rfl (QEx.lssK rfl (.tmp rfl) .con) rfl (lt_b rfl) ?_
  refine GoT.q rfl (QEx.move rfl (.tmp rfl)) rfl (lt_b rfl) ?_
  refine GoT.g rfl rfl rfl (fun hg => QEx.move rfl (.tmp rfl)) rfl (lt_b rfl) ?_
  refine GoT.g rfl rfl rfl (fun hg => QEx.gtrK rfl (.opt (.tmp rfl) hg) .con) rfl (lt_b rfl) ?_
  refine GoT.q rfl (QEx.pickK rfl (.tmp rfl) (fun hp => .con) (fun hp => (.opt (.tmp rfl) (beq_f hp)))) rfl (lt_b rfl) ?_
  refine GoT.q rfl (QEx.move rfl (.tmp rfl)) rfl (lt_b rfl) ?_
  refine GoT.g rfl rfl rfl (fun hg => QEx.move rfl (.tmp rfl)) rfl (lt_b rfl) ?_
  refine GoT.g rfl rfl rfl (fun hg => QEx.lssK rfl (.opt (.tmp rfl) hg) .con) rfl (lt_b rfl) ?_
  refine GoT.q rfl (QEx.pickK rfl (.tmp rfl) (fun hp => .con) (fun hp => (.opt (.tmp rfl) (beq_f hp)))) rfl (lt_b rfl) ?_
  refine GoT.q rfl (QEx.move rfl (.tmp rfl)) rfl (lt_b rfl) ?_
  refine GoT.g rfl rfl rfl (fun hg => QEx.move rfl (.tmp rfl)) rfl (lt_b rfl) ?_
  refine GoT.g rfl rfl rfl (fun hg => QEx.gtrK rfl (.opt (.tmp rfl) hg) .con) rfl (lt_b rfl) ?_
  refine GoT.q rfl (QEx.pickK rfl (.tmp rfl) (fun hp => .con) (fun hp => (.opt (.tmp rfl) (beq_f hp)))) rfl (lt_b rfl) ?_
  refine GoT.nil ?_
  refine Wp.condS h rfl (fun h => ?_) (fun h => ?_)
  · refine Wp.seq ?_
    refine Wp.region ?_
    refine GoT.q rfl (QEx.as (iAV 0) (QEx.assign rfl .con)) rfl (lt_b rfl) ?_
    refine GoT.nil ?_
    refine Wp.ret ?_
    cases h
    exact LeafQ.ret [] (by decide) (.cons (.tmp rfl) .nil) rfl
  · refine Wp.skip ?_
    refine chk_e h fun c1 h => ?_
    refine chk_e h fun c2 h => ?_
    refine let_e h fun x3 hx3 h => ?_
    refine let_e h fun x4 hx4 h => ?_
    refine Wp.seq ?_
    refine Wp.drawn2 (n0 := 8) [] mixed ?_
    refine GoD.q rfl (QEx.move rfl (.tmp rfl)) rfl (lt_b rfl) ?_
    refine GoD.q rfl (QEx.move rfl (.tmp rfl)) rfl (lt_b rfl) ?_
    refine GoD.q rfl (QEx.quoK rfl (.tmp rfl) (.tmp rfl) c1) rfl (lt_b rfl) ?_
    refine GoD.q rfl (QEx.move rfl (.tmp rfl)) rfl (lt_b rfl) ?_
    refine GoD.q rfl (QEx.move rfl (.tmp rfl)) rfl (lt_b rfl) ?_
    refine GoD.q rfl (QEx.remK rfl (.tmp rfl) (.tmp rfl) c2) rfl (lt_b rfl) ?_
    refine GoD.q rfl (QEx.eq (QEx.assign rfl (.tmp rfl)) (congrArg iAV hx3)) rfl (lt_b rfl) ?_
    refine GoD.q rfl (QEx.eq (QEx.assign rfl (.tmp rfl)) (congrArg iAV hx4)) rfl (lt_b rfl) ?_
    refine GoD.nil ⟨by kernel_rfl, by kernel_rfl, by kernel_rfl, by kernel_rfl, by kernel_rfl, ?_⟩
    refine GoT.nil ?_
    refine Wp.seq ?_
    refine Wp.block ?_
    refine let_e h fun x5 hx5 h => ?_
    refine Wp.seq ?_
    refine Wp.region ?_
    refine GoT.q rfl (QEx.move rfl (.tmp rfl)) rfl (lt_b rfl) ?_
    refine GoT.q rfl (QEx.move rfl (.tmp rfl)) rfl (lt_b rfl) ?_
    refine GoT.q rfl (QEx.move rfl (.tmp rfl)) rfl (lt_b rfl) ?_
    refine GoT.q rfl (QEx.subK rfl (.tmp rfl) (.tmp rfl)) rfl (lt_b rfl) ?_
    refine GoT.q rfl (QEx.geqK rfl (.tmp rfl) (.tmp rfl)) rfl (lt_b rfl) ?_
    refine GoT.q rfl (QEx.eq (QEx.assign rfl (.tmp rfl)) (congrArg boolAV hx5)) rfl (lt_b rfl) ?_
    refine GoT.nil ?_
    refine Wp.condS h rfl (fun h => ?_) (fun h => ?_)
    · refine let_e h fun x6 hx6 h => ?_
      refine Wp.region ?_
      refine GoT.q rfl (QEx.move rfl (.tmp rfl)) rfl (lt_b rfl) ?_
      refine GoT.q rfl (QEx.addK rfl (.tmp rfl) .con) rfl (lt_b rfl) ?_
      refine GoT.q rfl (QEx.eq (QEx.assign rfl (.tmp rfl)) (congrArg iAV hx6)) rfl (lt_b rfl) ?_
      refine GoT.nil ?_
      refine Wp.seq ?_
      refine Wp.region ?_
      refine GoT.q rfl (QEx.move rfl (.tmp rfl)) rfl (lt_b rfl) ?_
      refine GoT.q rfl (QEx.assign rfl (.tmp rfl)) rfl (lt_b rfl) ?_
      refine GoT.nil ?_
      refine Wp.ret ?_
      cases h
      exact LeafQ.ret [] (by decide) (.cons (.tmp rfl) .nil) rfl
    · refine let_e h fun x7 hx7 h => ?_
      refine Wp.seq ?_
      refine Wp.region ?_
      refine GoT.q rfl (QEx.move rfl (.tmp rfl)) rfl (lt_b rfl) ?_
      refine GoT.q rfl (QEx.negK rfl (.tmp rfl)) rfl (lt_b rfl) ?_
      refine GoT.q rfl (QEx.move rfl (.tmp rfl)) rfl (lt_b rfl) ?_
      refine GoT.q rfl (QEx.move rfl (.tmp rfl)) rfl (lt_b rfl) ?_
      refine GoT.q rfl (QEx.addK rfl (.tmp rfl) (.tmp rfl)) rfl (lt_b rfl) ?_
      refine GoT.q rfl (QEx.geqK rfl (.tmp rfl) (.tmp rfl)) rfl (lt_b rfl) ?_
      refine GoT.q rfl (QEx.eq (QEx.assign rfl (.tmp rfl)) (congrArg boolAV hx7)) rfl (lt_b rfl) ?_
      refine GoT.nil ?_
      refine Wp.condS h rfl (fun h => ?_) (fun h => ?_)
      · refine let_e h fun x8 hx8 h => ?_
        refine Wp.region ?_
        refine GoT.q rfl (QEx.move rfl (.tmp rfl)) rfl (lt_b rfl) ?_
        refine GoT.q rfl (QEx.subK rfl (.tmp rfl) .con) rfl (lt_b rfl) ?_
        refine GoT.q rfl (QEx.eq (QEx.assign rfl (.tmp rfl)) (congrArg iAV hx8)) rfl (lt_b rfl) ?_
        refine GoT.nil ?_
        refine Wp.seq ?_
        refine Wp.region ?_
        refine GoT.q rfl (QEx.move rfl (.tmp rfl)) rfl (lt_b rfl) ?_
        refine GoT.q rfl (QEx.assign rfl (.tmp rfl)) rfl (lt_b rfl) ?_
        refine GoT.nil ?_
        refine Wp.ret ?_
        cases h
        exact LeafQ.ret [] (by decide) (.cons (.tmp rfl) .nil) rfl
      · refine Wp.skip ?_
        refine Wp.seq ?_
        refine Wp.region ?_
        refine GoT.q rfl (QEx.move rfl (.tmp rfl)) rfl (lt_b rfl) ?_
        refine GoT.q rfl (QEx.assign rfl (.tmp rfl)) rfl (lt_b rfl) ?_
        refine GoT.nil ?_
        refine Wp.ret ?_
        cases h
        exact LeafQ.ret [] (by decide) (.cons (.tmp rfl) .nil) rfl
theorem polygon_fan_ok {vertices : List Vec} {r : List polygon_triangle × Int} (h : polygon_fan vertices = some r) : FnR Tryz.prog 132 [((slAV 2 Vec.av) vertices)] (.tup [(slT 0 0 5 polygon_triangle.av r.1), (iAV r.2)]) := by
  refine FnR.intro' (fn := Tryz.f132) (N := 81) Tryz.func132 rfl rfl (Nat.le_of_ble_eq_true rfl) [2, 4, 6, 8, 9, 11, 16, 21, 29, 38, 47, 69, 74, 75, 79] ?_
  refine Wp.seq ?_
  refine Wp.region ?_
  refine GoT.q rfl (QEx.as (slT 2 0 5 polygon_triangle.av ([] : List polygon_triangle)) (QEx.assign rfl (.nil))) rfl (lt_b rfl) ?_
  refine GoT.q rfl (QEx.as (iAV 0) (QEx.assign rfl .con)) rfl (lt_b rfl) ?_
  refine GoT.nil ?_
  refine Wp.seq ?_
  refine Wp.region ?_
  refine GoT.q rfl (QEx.as (slT 4 0 5 polygon_triangle.av ([] : List polygon_triangle)) (QEx.assign rfl (.nil))) rfl (lt_b rfl) ?_
  refine GoT.nil ?_
  refine Wp.seq ?_
  refine Wp.region ?_
  refine GoT.q rfl (QEx.as (iAV 0) (QEx.assign rfl .con)) rfl (lt_b rfl) ?_
  refine GoT.nil ?_
  refine chk_e h fun c1 h => ?_
  refine let_e h fun x2 hx2 h => ?_
  refine Wp.seq ?_
  refine Wp.region ?_
  refine GoT.q rfl (QEx.move rfl (.tmp rfl)) rfl (lt_b rfl) ?_
  refine GoT.q rfl (QEx.as (.cptr (Vec.cells (ix vertices 0))) (QEx.idxL (E := Vec.av) rfl et31 (.tmp rfl) .con c1)) rfl (lt_b rfl) ?_
  refine GoT.q rfl (QEx.ldC (x := (Vec.av (ix vertices 0))) rfl ag24 ts24 (.tmp rfl) (.inl ⟨rfl, rfl, rfl⟩)) rfl (lt_b rfl) ?_
  refine GoT.a rfl (AEx.alZ rfl zt24 rfl rfl) rfl (lt_b rfl) ?_
  refine GoT.s rfl (AEx.sto (Z := (Vec.cells x2)) rfl rfl ts24 (.tmp rfl) rfl (.tmp rfl) rfl rfl (le_b rfl) (congrArg (fun (x : Vec) => (Vec.cells x)) hx2)) rfl ?_
  refine GoT.nil ?_
  refine Wp.join2 (fun v3 v4 => ⟨[(4, (slT 4 0 5 polygon_triangle.av v3)), (5, (iAV v4))], [], [2, 6, 8, 9, 11, 16, 21, 29, 38, 47, 69, 74, 75, 79]⟩) (fun v3 v4 => polygon_fan_j2 v3 v4 = some r) ?_ ?_
  · intro v3 v4 h
    refine Wp.seq ?_
    refine Wp.region ?_
    refine GoT.q rfl (QEx.move rfl (.tmp rfl)) rfl (lt_b rfl) ?_
    refine GoT.q rfl (QEx.move rfl (.tmp rfl)) rfl (lt_b rfl) ?_
    refine GoT.q rfl (QEx.assign rfl (.tmp rfl)) rfl (lt_b rfl) ?_
    refine GoT.q rfl (QEx.assign rfl (.tmp rfl)) rfl (lt_b rfl) ?_
    refine GoT.nil ?_
    refine Wp.ret ?_
    cases h
    exact LeafQ.ret [(4, 0)] (by decide) (.cons (.tmp rfl) (.cons (.tmp rfl) .nil)) rfl
  · refine Wp.seq ?_
    refine Wp.region ?_
    refine GoT.q rfl (QEx.as (iAV 1) (QEx.assign rfl .con)) rfl (lt_b rfl) ?_
    refine GoT.nil ?_
    refine Wp.block ?_
    refine Wp.loop3 (fun v5 v6 v7 => ⟨[(0, ((slAV 2 Vec.av) vertices)), (4, (slT 4 0 5 polygon_triangle.av v5)), (5, (iAV v6)), (6, (.ptr 6 0)), (7, (iAV v7))], [(6, .cells (Vec.cells x2))], [2, 8, 9, 11, 16, 21, 29, 38, 47, 69, 74, 75, 79]⟩) (fun n v5 v6 v7 => polygon_fan_l1 vertices x2 polygon_fan_j2 n v5 v6 v7 = some r) fuel ([] : List polygon_triangle) 0 1 [] [] h (LS.to.mk (.b rfl rfl (.r rfl rfl (.b rfl rfl (.r rfl rfl (.b rfl rfl .n))))) (.b rfl rfl rfl .n) rfl) ?_
    rintro (_ | n2) v5 v6 v7 h
    · exact none_e h
    rw [polygon_fan_l1] at h
    refine Wp.seq ?_
    refine Wp.seq ?_
    refine Wp.region ?_
    refine GoT.q rfl (QEx.move rfl (.tmp rfl)) rfl (lt_b rfl) ?_
    refine GoT.q rfl (QEx.addK rfl (.tmp rfl) .con) rfl (lt_b rfl) ?_
    refine GoT.q rfl (QEx.move rfl (.tmp rfl)) rfl (lt_b rfl) ?_
    refine GoT.q rfl (QEx.lenL rfl ⟨_, uT31⟩ (.tmp rfl)) rfl (lt_b rfl) ?_
    refine GoT.q rfl (QEx.lssK rfl (.tmp rfl) (.tmp rfl)) rfl (lt_b rfl) ?_
    refine GoT.nil ?_
    refine Wp.condS h rfl (fun h => ?_) (fun h => ?_)
    · refine Wp.skip ?_
      refine Wp.seq ?_
      refine Wp.block ?_
      refine chk_e h fun c8 h => ?_
      refine chk_e h fun c9 h => ?_
      refine let_e h fun x10 hx10 h => ?_
      refine Wp.seq ?_
      refine Wp.drawn2 (n0 := 19) [2, 9, 11, 16, 21, 29, 38, 47, 69, 74, 75, 79] mixed ?_
      refine GoD.q rfl (QEx.move rfl (.tmp rfl)) rfl (lt_b rfl) ?_
      refine GoD.q rfl (QEx.move rfl (.tmp rfl)) rfl (lt_b rfl) ?_
      refine GoD.q rfl (QEx.as (.cptr (Vec.cells (ix vertices v7))) (QEx.idxL (E := Vec.av) rfl et31 (.tmp rfl) (.tmp rfl) c8)) rfl (lt_b rfl) ?_
      refine GoD.q rfl (QEx.fldC [(iAV ((ix vertices v7).X))] rfl uT24 rfl ts3 rfl (.tmp rfl) rfl) rfl (lt_b rfl) ?_
      refine GoD.q rfl (QEx.ldC (x := (iAV ((ix vertices v7).X))) rfl ag3 ts3 (.tmp rfl) (.inr ⟨rfl, rfl⟩)) rfl (lt_b rfl) ?_
      refine GoD.q rfl (QEx.fldP 0 rfl uT24 rfl ts3 rfl (.tmp rfl) rfl) rfl (lt_b rfl) ?_
      refine GoD.qr rfl rfl (QEx.ldP1 (Vec.cells x2) (iAV x2.X) rfl ag3 (.tmp rfl) rfl) rfl (lt_b rfl) ?_
      refine GoD.q rfl (QEx.subK rfl (.tmp rfl) (.tmp rfl)) rfl (lt_b rfl) ?_
      refine GoD.q rfl (QEx.move rfl (.tmp rfl)) rfl (lt_b rfl) ?_
      refine GoD.q rfl (QEx.move rfl (.tmp rfl)) rfl (lt_b rfl) ?_
      refine GoD.q rfl (QEx.as (.cptr (Vec.cells (ix vertices v7))) (QEx.idxL (E := Vec.av) rfl et31 (.tmp rfl) (.tmp rfl) c9)) rfl (lt_b rfl) ?_
      refine GoD.q rfl (QEx.fldC [(iAV ((ix vertices v7).Y))] rfl uT24 rfl ts3 rfl (.tmp rfl) rfl) rfl (lt_b rfl) ?_
      refine GoD.q rfl (QEx.ldC (x := (iAV ((ix vertices v7).Y))) rfl ag3 ts3 (.tmp rfl) (.inr ⟨rfl, rfl⟩)) rfl (lt_b rfl) ?_
      refine GoD.q rfl (QEx.fldP 1 rfl uT24 rfl ts3 rfl (.tmp rfl) rfl) rfl (lt_b rfl) ?_
      refine GoD.qr rfl rfl (QEx.ldP1 (Vec.cells x2) (iAV x2.Y) rfl ag3 (.tmp rfl) rfl) rfl (lt_b rfl) ?_
      refine GoD.q rfl (QEx.subK rfl (.tmp rfl) (.tmp rfl)) rfl (lt_b rfl) ?_
      refine GoD.q rfl (QEx.as (Vec.av (⟨(w64 (((ix vertices v7).X) - x2.X)), (w64 (((ix vertices v7).Y) - x2.Y))⟩ : Vec)) (QEx.buildZ rfl uT24 zt24 (by kernel_rfl) (.cons rfl (.tmp rfl) rfl rfl (le_b rfl) (.cons rfl (.tmp rfl) rfl rfl (le_b rfl) .nil)))) rfl (lt_b rfl) ?_
      refine GoD.al rfl rfl zt24 rfl (lt_b rfl) ?_
      refine GoD.s rfl (Z := (Vec.cells x10)) rfl rfl ts24 (.tmp rfl) rfl (.tmp rfl) rfl rfl (le_b rfl) (congrArg (fun (x : Vec) => (Vec.cells x)) hx10) ?_
      refine GoD.nil ⟨by kernel_rfl, by kernel_rfl, by kernel_rfl, by kernel_rfl, by kernel_rfl, ?_⟩
      refine GoT.nil ?_
      refine chk_e h fun c11 h => ?_
      refine chk_e h fun c12 h => ?_
      refine let_e h fun x13 hx13 h => ?_
      refine Wp.seq ?_
      refine Wp.drawn2 (n0 := 21) [2, 11, 16, 21, 29, 38, 47, 69, 74, 75, 79] mixed ?_
      refine GoD.q rfl (QEx.move rfl (.tmp rfl)) rfl (lt_b rfl) ?_
      refine GoD.q rfl (QEx.move rfl (.tmp rfl)) rfl (lt_b rfl) ?_
      refine GoD.q rfl (QEx.addK rfl (.tmp rfl) .con) rfl (lt_b rfl) ?_
      refine GoD.q rfl (QEx.as (.cptr (Vec.cells (ix vertices (w64 (v7 + 1))))) (QEx.idxL (E := Vec.av) rfl et31 (.tmp rfl) (.tmp rfl) c11)) rfl (lt_b rfl) ?_
      refine GoD.q rfl (QEx.fldC [(iAV ((ix vertices (w64 (v7 + 1))).X))] rfl uT24 rfl ts3 rfl (.tmp rfl) rfl) rfl (lt_b rfl) ?_
      refine GoD.q rfl (QEx.ldC (x := (iAV ((ix vertices (w64 (v7 + 1))).X))) rfl ag3 ts3 (.tmp rfl) (.inr ⟨rfl, rfl⟩)) rfl (lt_b rfl) ?_
      refine GoD.q rfl (QEx.fldP 0 rfl uT24 rfl ts3 rfl (.tmp rfl) rfl) rfl (lt_b rfl) ?_
      refine GoD.qr rfl rfl (QEx.ldP1 (Vec.cells x2) (iAV x2.X) rfl ag3 (.tmp rfl) rfl) rfl (lt_b rfl) ?_
      refine GoD.q rfl (QEx.subK rfl (.tmp rfl) (.tmp rfl)) rfl (lt_b rfl) ?_
      refine GoD.q rfl (QEx.move rfl (.tmp rfl)) rfl (lt_b rfl) ?_
      refine GoD.q rfl (QEx.move rfl (.tmp rfl)) rfl (lt_b rfl) ?_
      refine GoD.q rfl (QEx.addK rfl (.tmp rfl) .con) rfl (lt_b rfl) ?_
      refine GoD.q rfl (QEx.as (.cptr (Vec.cells (ix vertices (w64 (v7 + 1))))) (QEx.idxL (E := Vec.av) rfl et31 (.tmp rfl) (.tmp rfl) c12)) rfl (lt_b rfl) ?_
      refine GoD.q rfl (QEx.fldC [(iAV ((ix vertices (w64 (v7 + 1))).Y))] rfl uT24 rfl ts3 rfl (.tmp rfl) rfl) rfl (lt_b rfl) ?_
      refine GoD.q rfl (QEx.ldC (x := (iAV ((ix vertices (w64 (v7 + 1))).Y))) rfl ag3 ts3 (.tmp rfl) (.inr ⟨rfl, rfl⟩)) rfl (lt_b rfl) ?_
      refine GoD.q rfl (QEx.fldP 1 rfl uT24 rfl ts3 rfl (.tmp rfl) rfl) rfl (lt_b rfl) ?_
      refine GoD.qr rfl rfl (QEx.ldP1 (Vec.cells x2) (iAV x2.Y) rfl ag3 (.tmp rfl) rfl) rfl (lt_b rfl) ?_
      refine GoD.q rfl (QEx.subK rfl (.tmp rfl) (.tmp rfl)) rfl (lt_b rfl) ?_
      refine GoD.q rfl (QEx.as (Vec.av (⟨(w64 (((ix vertices (w64 (v7 + 1))).X) - x2.X)), (w64 (((ix vertices (w64 (v7 + 1))).Y) - x2.Y))⟩ : Vec)) (QEx.buildZ rfl uT24 zt24 (by kernel_rfl) (.cons rfl (.tmp rfl) rfl rfl (le_b rfl) (.cons rfl (.tmp rfl) rfl rfl (le_b rfl) .nil)))) rfl (lt_b rfl) ?_
      refine GoD.al rfl rfl zt24 rfl (lt_b rfl) ?_
      refine GoD.s rfl (Z := (Vec.cells x13)) rfl rfl ts24 (.tmp rfl) rfl (.tmp rfl) rfl rfl (le_b rfl) (congrArg (fun (x : Vec) => (Vec.cells x)) hx13) ?_
      refine GoD.nil ⟨by kernel_rfl, by kernel_rfl, by kernel_rfl, by kernel_rfl, by kernel_rfl, ?_⟩
      refine GoT.nil ?_
      refine bind_e h fun r14 hr14 h => ?_
      refine Wp.seq ?_
      refine Wp.region ?_
      refine GoT.q rfl (QEx.fldP 0 rfl uT24 rfl ts3 rfl (.tmp rfl) rfl) rfl (lt_b rfl) ?_
      refine GoT.qr rfl rfl (QEx.ldP1 (Vec.cells x10) (iAV x10.X) rfl ag3 (.tmp rfl) rfl) rfl (lt_b rfl) ?_
      refine GoT.q rfl (QEx.fldP 1 rfl uT24 rfl ts3 rfl (.tmp rfl) rfl) rfl (lt_b rfl) ?_
      refine GoT.qr rfl rfl (QEx.ldP1 (Vec.cells x13) (iAV x13.Y) rfl ag3 (.tmp rfl) rfl) rfl (lt_b rfl) ?_
      refine GoT.q rfl (QEx.mulK rfl (.tmp rfl) (.tmp rfl)) rfl (lt_b rfl) ?_
      refine GoT.q rfl (QEx.fldP 1 rfl uT24 rfl ts3 rfl (.tmp rfl) rfl) rfl (lt_b rfl) ?_
      refine GoT.qr rfl rfl (QEx.ldP1 (Vec.cells x10) (iAV x10.Y) rfl ag3 (.tmp rfl) rfl) rfl (lt_b rfl) ?_
      refine GoT.q rfl (QEx.fldP 0 rfl uT24 rfl ts3 rfl (.tmp rfl) rfl) rfl (lt_b rfl) ?_
      refine GoT.qr rfl rfl (QEx.ldP1 (Vec.cells x13) (iAV x13.X) rfl ag3 (.tmp rfl) rfl) rfl (lt_b rfl) ?_
      refine GoT.q rfl (QEx.mulK rfl (.tmp rfl) (.tmp rfl)) rfl (lt_b rfl) ?_
      refine GoT.q rfl (QEx.subK rfl (.tmp rfl) (.tmp rfl)) rfl (lt_b rfl) ?_
      refine GoT.q rfl (QEx.cal0 (r := (iAV r14)) [(iAV (w64 ((w64 (x10.X * x13.Y)) - (w64 (x10.Y * x13.X))))), (iAV 65536)] rfl Tryz.call118 (.cons (.tmp rfl) (.cons .con .nil)) (fixed_RoundDiv_ok hr14) rfl rfl) rfl (lt_b rfl) ?_
      refine GoT.q rfl (QEx.assign rfl (.tmp rfl)) rfl (lt_b rfl) ?_
      refine GoT.nil ?_
      refine chk_e h fun c15 h => ?_
      refine let_e h fun x16 hx16 h => ?_
      refine Wp.seq ?_
      refine Wp.region ?_
      refine GoT.q rfl (QEx.move rfl (.tmp rfl)) rfl (lt_b rfl) ?_
      refine GoT.qr rfl rfl (QEx.ldP (Vec.cells x10) (Vec.av x10) rfl ag24 ts24 (.tmp rfl) (le_b rfl) rfl) rfl (lt_b rfl) ?_
      refine GoT.qr rfl rfl (QEx.ldP (Vec.cells x13) (Vec.av x13) rfl ag24 ts24 (.tmp rfl) (le_b rfl) rfl) rfl (lt_b rfl) ?_
      refine GoT.q rfl (QEx.move rfl (.tmp rfl)) rfl (lt_b rfl) ?_
      refine GoT.q rfl (QEx.as (polygon_triangle.av (⟨x10, x13, r14⟩ : polygon_triangle)) (QEx.buildZ rfl uT125 zt125 (by kernel_rfl) (.cons rfl (.tmp rfl) rfl rfl (le_b rfl) (.cons rfl (.tmp rfl) rfl rfl (le_b rfl) (.cons rfl (.tmp rfl) rfl rfl (le_b rfl) .nil))))) rfl (lt_b rfl) ?_
      refine GoT.q rfl (QEx.as (slT 74 0 5 polygon_triangle.av ([(⟨x10, x13, r14⟩ : polygon_triangle)] : List polygon_triangle)) (QEx.buildSlice rfl et109 (.cons (.tmp rfl) rfl rfl rfl .nil) rfl (by decide))) rfl (lt_b rfl) ?_
      refine GoT.a rfl (AEx.appL (E := polygon_triangle.av) rfl et109 (.tmp rfl) (.tmp rfl) rfl c15 rfl rfl hx16 (by decide)) rfl (lt_b rfl) ?_
      refine GoT.q rfl (QEx.assign rfl (.tmp rfl)) rfl (lt_b rfl) ?_
      refine GoT.nil ?_
      refine let_e h fun x17 hx17 h => ?_
      refine Wp.region ?_
      refine GoT.q rfl (QEx.move rfl (.tmp rfl)) rfl (lt_b rfl) ?_
      refine GoT.q rfl (QEx.move rfl (.tmp rfl)) rfl (lt_b rfl) ?_
      refine GoT.q rfl (QEx.addK rfl (.tmp rfl) (.tmp rfl)) rfl (lt_b rfl) ?_
      refine GoT.q rfl (QEx.eq (QEx.assign rfl (.tmp rfl)) (congrArg iAV hx17)) rfl (lt_b rfl) ?_
      refine GoT.nil ?_
      refine let_e h fun x18 hx18 h => ?_
      refine Wp.region ?_
      refine GoT.q rfl (QEx.move rfl (.tmp rfl)) rfl (lt_b rfl) ?_
      refine GoT.q rfl (QEx.addK rfl (.tmp rfl) .con) rfl (lt_b rfl) ?_
      refine GoT.q rfl (QEx.eq (QEx.assign rfl (.tmp rfl)) (congrArg iAV hx18)) rfl (lt_b rfl) ?_
      refine GoT.nil ?_
      exact Round3.mk x16 x17 x18 [8, 9] [(75, 4)] h (LS.to.mk (.b rfl rfl (.r rfl rfl (.b rfl rfl (.r rfl rfl (.b rfl rfl .n))))) (.b rfl rfl rfl .n) rfl)
    · refine Wp.exit ?_
      exact Joined2.mk v5 v6 [6] [] h (LS.to.mk (.r rfl rfl (.b rfl rfl .n)) .n rfl)
theorem polygon_Area_ok {vertices : List Vec} {r : Int} (h : polygon_Area vertices = some r) : FnR Tryz.prog 85 [((slAV 2 Vec.av) vertices)] (iAV r) := by
  refine FnR.intro' (fn := Tryz.f85) (N := 15) Tryz.func85 rfl rfl (Nat.le_of_ble_eq_true rfl) [3, 5, 9, 10] ?_
  refine Wp.seq ?_
  refine Wp.region ?_
  refine GoT.q rfl (QEx.as (iAV 0) (QEx.assign rfl .con)) rfl (lt_b rfl) ?_
  refine GoT.nil ?_
  refine Wp.seq ?_
  refine bind_e h fun r1 hr1 h => ?_
  refine Wp.seq ?_
  refine Wp.region ?_
  refine GoT.q rfl (QEx.move rfl (.tmp rfl)) rfl (lt_b rfl) ?_
  refine GoT.q rfl (QEx.cal0 (r := (boolAV r1)) [((slAV 2 Vec.av) vertices)] rfl Tryz.call83 (.cons (.tmp rfl) .nil) (polygon_IsConvex_ok hr1) rfl rfl) rfl (lt_b rfl) ?_
  refine GoT.q rfl (QEx.notK rfl (.tmp rfl)) rfl (lt_b rfl) ?_
  refine GoT.nil ?_
  refine Wp.condS h rfl (fun h => ?_) (fun h => ?_)
  · refine Wp.seq ?_
    refine Wp.region ?_
    refine GoT.q rfl (QEx.as (iAV 0) (QEx.assign rfl .con)) rfl (lt_b rfl) ?_
    refine GoT.nil ?_
    refine Wp.ret ?_
    cases h
    exact LeafQ.ret [] (by decide) (.cons (.tmp rfl) .nil) rfl
  · refine Wp.skip ?_
    refine bind_e h fun r2 hr2 h => ?_
    refine Wp.seq ?_
    refine Wp.region ?_
    refine GoT.q rfl (QEx.move rfl (.tmp rfl)) rfl (lt_b rfl) ?_
    refine GoT.c rfl (QEx.cal (r' := (.tup [(slT 10 0 5 polygon_triangle.av r2.1), (iAV r2.2)])) [((slAV 2 Vec.av) vertices)] rfl Tryz.call132 (.cons (.tmp rfl) .nil) (polygon_fan_ok hr2) rfl rfl rfl) rfl rfl (lt_b rfl) ?_
    refine GoT.q rfl (QEx.move rfl (.tmp rfl)) rfl (lt_b rfl) ?_
    refine GoT.q rfl (QEx.extract rfl (.tmp rfl) rfl) rfl (lt_b rfl) ?_
    refine GoT.q rfl (QEx.extract rfl (.tmp rfl) rfl) rfl (lt_b rfl) ?_
    refine GoT.q rfl (QEx.assign rfl (.tmp rfl)) rfl (lt_b rfl) ?_
    refine GoT.q rfl (QEx.assign rfl (.tmp rfl)) rfl (lt_b rfl) ?_
    refine GoT.nil ?_
    refine bind_e h fun r3 hr3 h => ?_
    refine Wp.seq ?_
    refine Wp.region ?_
    refine GoT.q rfl (QEx.move rfl (.tmp rfl)) rfl (lt_b rfl) ?_
    refine GoT.q rfl (QEx.cal0 (r := (iAV r3)) [(iAV r2.2), (iAV 2)] rfl Tryz.call118 (.cons (.tmp rfl) (.cons .con .nil)) (fixed_RoundDiv_ok hr3) rfl rfl) rfl (lt_b rfl) ?_
    refine GoT.q rfl (QEx.assign rfl (.tmp rfl)) rfl (lt_b rfl) ?_
    refine GoT.nil ?_
    refine Wp.ret ?_
    cases h
    exact LeafQ.ret [] (by decide) (.cons (.tmp rfl) .nil) rfl
theorem shape_Validate_ok {s : Shape} {r : Int} (h : shape_Validate s = some r) : FnR Tryz.prog 37 [(Shape.av s)] (iAV r) := by
  refine FnR.intro' (fn := Tryz.f37) (N := 81) Tryz.func37 rfl rfl (Nat.le_of_ble_eq_true rfl) [1] ?_
  refine Wp.seq ?_
  refine Wp.region ?_
  refine GoT.a rfl (AEx.bx (Z := (Shape.cells s)) rfl (.tmp rfl) rfl rfl rfl rfl) rfl (lt_b rfl) ?_
  refine GoT.q rfl (QEx.as (iAV 0) (QEx.assign rfl .con)) rfl (lt_b rfl) ?_
  refine GoT.nil ?_
  refine Wp.seq ?_
  refine Wp.block ?_
  refine let_e h fun x1 hx1 h => ?_
  refine Wp.seq ?_
  refine Wp.region ?_
  refine GoT.q rfl (QEx.fldP 0 rfl uT33 rfl ts30 rfl (.tmp rfl) rfl) rfl (lt_b rfl) ?_
  refine GoT.qr rfl rfl (QEx.ldP1 (Shape.cells s) (iAV s.Kind) rfl ag30 (.tmp rfl) rfl) rfl (lt_b rfl) ?_
  refine GoT.q rfl (QEx.lssK rfl (.tmp rfl) .con) rfl (lt_b rfl) ?_
  refine GoT.q rfl (QEx.move rfl (.tmp rfl)) rfl (lt_b rfl) ?_
  refine GoT.g rfl rfl rfl (fun hg => QEx.fldP 0 rfl uT33 rfl ts30 rfl (.tmp rfl) rfl) rfl (lt_b rfl) ?_
  refine GoT.gr rfl rfl rfl rfl (fun hg => QEx.ldP1 (Shape.cells s) (iAV s.Kind) rfl ag30 (.opt (.tmp rfl) hg) rfl) rfl (lt_b rfl) ?_
  refine GoT.g rfl rfl rfl (fun hg => QEx.gtrK rfl (.opt (.tmp rfl) hg) .con) rfl (lt_b rfl) ?_
  refine GoT.q rfl (QEx.pickK rfl (.tmp rfl) (fun hp => .con) (fun hp => (.opt (.tmp rfl) (beq_f hp)))) rfl (lt_b rfl) ?_
  refine GoT.q rfl (QEx.eq (QEx.assign rfl (.tmp rfl)) (congrArg boolAV hx1)) rfl (lt_b rfl) ?_
  refine GoT.nil ?_
  refine Wp.condS h rfl (fun h => ?_) (fun h => ?_)
  · refine Wp.seq ?_
    refine Wp.region ?_
    refine GoT.q rfl (QEx.as (iAV 10) (QEx.assign rfl .con)) rfl (lt_b rfl) ?_
    refine GoT.nil ?_
    refine Wp.ret ?_
    cases h
    exact LeafQ.ret [] (by decide) (.cons (.tmp rfl) .nil) rfl
  · refine let_e h fun r2 hr2 h => ?_
    refine let_e h fun x3 hx3 h => ?_
    refine Wp.seq ?_
    refine Wp.region ?_
    refine GoT.qr rfl rfl (QEx.ldP (Shape.cells s) (Shape.av s) rfl ag33 ts33 (.tmp rfl) (le_b rfl) rfl) rfl (lt_b rfl) ?_
    refine GoT.q rfl (QEx.cal0 (r := (boolAV r2)) [(Shape.av s)] rfl Tryz.call78 (.cons (.tmp rfl) .nil) (shape_validCount_ok hr2) rfl rfl) rfl (lt_b rfl) ?_
    refine GoT.q rfl (QEx.notK rfl (.tmp rfl)) rfl (lt_b rfl) ?_
    refine GoT.q rfl (QEx.eq (QEx.assign rfl (.tmp rfl)) (congrArg boolAV hx3)) rfl (lt_b rfl) ?_
    refine GoT.nil ?_
    refine Wp.condS h rfl (fun h => ?_) (fun h => ?_)
    · refine Wp.seq ?_
      refine Wp.region ?_
      refine GoT.q rfl (QEx.as (iAV 11) (QEx.assign rfl .con)) rfl (lt_b rfl) ?_
      refine GoT.nil ?_
      refine Wp.ret ?_
      cases h
      exact LeafQ.ret [] (by decide) (.cons (.tmp rfl) .nil) rfl
    · refine bind_e h fun r4 hr4 h => ?_
      refine Wp.seq ?_
      refine Wp.region ?_
      refine GoT.q rfl (QEx.fldP 2 rfl uT33 rfl ts31 rfl (.tmp rfl) rfl) rfl (lt_b rfl) ?_
      refine GoT.qr rfl rfl (QEx.ldP1 (Shape.cells s) ((slAV 2 Vec.av) s.Vertices) rfl ag31 (.tmp rfl) rfl) rfl (lt_b rfl) ?_
      refine GoT.q rfl (QEx.cal0 (r := (boolAV r4)) [((slAV 2 Vec.av) s.Vertices), (.clo 80 [])] rfl Tryz.call79 (.cons (.tmp rfl) (.cons .fn .nil)) (slices_ContainsFunc_Vec_ok ⟨Tryz.call80, fun x r h => (shape_Validate_c1_ok (Option.some.inj h))⟩ hr4) rfl rfl) rfl (lt_b rfl) ?_
      refine GoT.q rfl (QEx.assign rfl (.tmp rfl)) rfl (lt_b rfl) ?_
      refine GoT.nil ?_
      refine Wp.condS h rfl (fun h => ?_) (fun h => ?_)
      · refine Wp.seq ?_
        refine Wp.region ?_
        refine GoT.q rfl (QEx.as (iAV 6) (QEx.assign rfl .con)) rfl (lt_b rfl) ?_
        refine GoT.nil ?_
        refine Wp.ret ?_
        cases h
        exact LeafQ.ret [] (by decide) (.cons (.tmp rfl) .nil) rfl
      · refine Wp.join1 (fun v5 => ⟨[(1, (.ptr 1 0)), (20, (boolAV v5))], [(1, .cells (Shape.cells s))], []⟩) (fun v5 => (shape_Validate_j1 s) v5 = some r) ?_ ?_
        · intro v5 h
          refine Wp.condS h rfl (fun h => ?_) (fun h => ?_)
          · refine Wp.seq ?_
            refine Wp.region ?_
            refine GoT.q rfl (QEx.as (iAV 6) (QEx.assign rfl .con)) rfl (lt_b rfl) ?_
            refine GoT.nil ?_
            refine Wp.ret ?_
            cases h
            exact LeafQ.ret [] (by decide) (.cons (.tmp rfl) .nil) rfl
          · refine chk_e h fun c8 h => ?_
            refine chk_e h fun c9 h => ?_
            refine let_e h fun r10 hr10 h => ?_
            refine bind_e h fun r11 hr11 h => ?_
            refine let_e h fun x12 hx12 h => ?_
            refine Wp.seq ?_
            refine Wp.drawn2 (n0 := 17) [] mixed ?_
            refine GoD.q rfl (QEx.fldP 0 rfl uT33 rfl ts30 rfl (.tmp rfl) rfl) rfl (lt_b rfl) ?_
            refine GoD.qr rfl rfl (QEx.ldP1 (Shape.cells s) (iAV s.Kind) rfl ag30 (.tmp rfl) rfl) rfl (lt_b rfl) ?_
            refine GoD.q rfl (QEx.eqlK rfl (.tmp rfl) .con) rfl (lt_b rfl) ?_
            refine GoD.q rfl (QEx.move rfl (.tmp rfl)) rfl (lt_b rfl) ?_
            refine GoD.g rfl rfl rfl (fun hg => QEx.fldP 2 rfl uT33 rfl ts31 rfl (.tmp rfl) rfl) rfl (lt_b rfl) ?_
            refine GoD.gr rfl rfl rfl rfl (fun hg => QEx.ldP1 (Shape.cells s) ((slAV 2 Vec.av) s.Vertices) rfl ag31 (.opt (.tmp rfl) hg) rfl) rfl (lt_b rfl) ?_
            refine GoD.g rfl rfl rfl (fun hg => QEx.as (.cptr (Vec.cells (ix s.Vertices 1))) (QEx.idxL (E := Vec.av) rfl et31 (.opt (.tmp rfl) hg) .con (c8 hg))) rfl (lt_b rfl) ?_
            refine GoD.g rfl rfl rfl (fun hg => QEx.ldC (x := (Vec.av (ix s.Vertices 1))) rfl ag24 ts24 (.opt (.tmp rfl) hg) (.inl ⟨rfl, rfl, rfl⟩)) rfl (lt_b rfl) ?_
            refine GoD.g rfl rfl rfl (fun hg => QEx.fldP 2 rfl uT33 rfl ts31 rfl (.tmp rfl) rfl) rfl (lt_b rfl) ?_
            refine GoD.gr rfl rfl rfl rfl (fun hg => QEx.ldP1 (Shape.cells s) ((slAV 2 Vec.av) s.Vertices) rfl ag31 (.opt (.tmp rfl) hg) rfl) rfl (lt_b rfl) ?_
            refine GoD.g rfl rfl rfl (fun hg => QEx.as (.cptr (Vec.cells (ix s.Vertices 0))) (QEx.idxL (E := Vec.av) rfl et31 (.opt (.tmp rfl) hg) .con (c9 hg))) rfl (lt_b rfl) ?_
            refine GoD.g rfl rfl rfl (fun hg => QEx.ldC (x := (Vec.av (ix s.Vertices 0))) rfl ag24 ts24 (.opt (.tmp rfl) hg) (.inl ⟨rfl, rfl, rfl⟩)) rfl (lt_b rfl) ?_
            refine GoD.g rfl rfl rfl (fun hg => QEx.cal0 (r := (Vec.av r10)) [(Vec.av (ix s.Vertices 1)), (Vec.av (ix s.Vertices 0))] rfl Tryz.call51 (.cons (.opt (.tmp rfl) hg) (.cons (.opt (.tmp rfl) hg) .nil)) (vec2_Sub_ok hr10) rfl rfl) rfl (lt_b rfl) ?_
            refine GoD.g rfl rfl rfl (fun hg => QEx.cal0 (r := (iAV r11)) [(Vec.av r10)] rfl Tryz.call82 (.cons (.opt (.tmp rfl) hg) .nil) (vec2_Length_ok (gcall hr11 hg)) rfl rfl) rfl (lt_b rfl) ?_
            refine GoD.g rfl rfl rfl (fun hg => QEx.lssK rfl (.opt (.tmp rfl) hg) .con) rfl (lt_b rfl) ?_
            refine GoD.q rfl (QEx.pickK rfl (.tmp rfl) (fun hp => (.opt (.tmp rfl) (beq_t hp))) (fun hp => .con)) rfl (lt_b rfl) ?_
            refine GoD.q rfl (QEx.eq (QEx.assign rfl (.tmp rfl)) (congrArg boolAV hx12)) rfl (lt_b rfl) ?_
            refine GoD.nil ⟨by kernel_rfl, by kernel_rfl, by kernel_rfl, by kernel_rfl, by kernel_rfl, ?_⟩
            refine GoT.nil ?_
            refine Wp.condS h rfl (fun h => ?_) (fun h => ?_)
            · refine Wp.seq ?_
              refine Wp.region ?_
              refine GoT.q rfl (QEx.as (iAV 12) (QEx.assign rfl .con)) rfl (lt_b rfl) ?_
              refine GoT.nil ?_
              refine Wp.ret ?_
              cases h
              exact LeafQ.ret [] (by decide) (.cons (.tmp rfl) .nil) rfl
            · refine bind_e h fun r13 hr13 h => ?_
              refine bind_e h fun r14 hr14 h => ?_
              refine bind_e h fun r15 hr15 h => ?_
              refine let_e h fun x16 hx16 h => ?_
              refine Wp.seq ?_
              refine Wp.region ?_
              refine GoT.q rfl (QEx.fldP 0 rfl uT33 rfl ts30 rfl (.tmp rfl) rfl) rfl (lt_b rfl) ?_
              refine GoT.qr rfl rfl (QEx.ldP1 (Shape.cells s) (iAV s.Kind) rfl ag30 (.tmp rfl) rfl) rfl (lt_b rfl) ?_
              refine GoT.q rfl (QEx.eqlK rfl (.tmp rfl) .con) rfl (lt_b rfl) ?_
              refine GoT.q rfl (QEx.move rfl (.tmp rfl)) rfl (lt_b rfl) ?_
              refine GoT.g rfl rfl rfl (fun hg => QEx.fldP 2 rfl uT33 rfl ts31 rfl (.tmp rfl) rfl) rfl (lt_b rfl) ?_
              refine GoT.gr rfl rfl rfl rfl (fun hg => QEx.ldP1 (Shape.cells s) ((slAV 2 Vec.av) s.Vertices) rfl ag31 (.opt (.tmp rfl) hg) rfl) rfl (lt_b rfl) ?_
              refine GoT.g rfl rfl rfl (fun hg => QEx.cal0 (r := (boolAV r13)) [((slAV 2 Vec.av) s.Vertices)] rfl Tryz.call83 (.cons (.opt (.tmp rfl) hg) .nil) (polygon_IsConvex_ok (gcall hr13 hg)) rfl rfl) rfl (lt_b rfl) ?_
              refine GoT.g rfl rfl rfl (fun hg => QEx.notK rfl (.opt (.tmp rfl) hg)) rfl (lt_b rfl) ?_
              refine GoT.g rfl rfl rfl (fun hg => QEx.move rfl (.opt (.tmp rfl) hg)) rfl (lt_b rfl) ?_
              refine GoT.g2 rfl rfl rfl (fun hg => QEx.fldP 2 rfl uT33 rfl ts31 rfl (.tmp rfl) rfl) rfl (lt_b rfl) ?_
              refine GoT.gr2 rfl rfl rfl rfl (fun hg => QEx.ldP1 (Shape.cells s) ((slAV 2 Vec.av) s.Vertices) rfl ag31 (.opt (.tmp rfl) hg) rfl) rfl (lt_b rfl) ?_
              refine GoT.g2 rfl rfl rfl (fun hg => QEx.cal0 (r := (iAV r14)) [((slAV 2 Vec.av) s.Vertices)] rfl Tryz.call84 (.cons (.opt (.tmp rfl) hg) .nil) (polygon_ShortestEdge_ok (gcall hr14 hg)) rfl rfl) rfl (lt_b rfl) ?_
              refine GoT.g2 rfl rfl rfl (fun hg => QEx.lssK rfl (.opt (.tmp rfl) hg) .con) rfl (lt_b rfl) ?_
              refine GoT.g rfl rfl rfl (fun hg => QEx.pickK rfl (.opt (.tmp rfl) hg) (fun hp => .con) (fun hp => (.opt (.tmp rfl) (and_i hg (beq_f hp))))) rfl (lt_b rfl) ?_
              refine GoT.g rfl rfl rfl (fun hg => QEx.move rfl (.opt (.tmp rfl) hg)) rfl (lt_b rfl) ?_
              refine GoT.g2 rfl rfl rfl (fun hg => QEx.fldP 2 rfl uT33 rfl ts31 rfl (.tmp rfl) rfl) rfl (lt_b rfl) ?_
              refine GoT.gr2 rfl rfl rfl rfl (fun hg => QEx.ldP1 (Shape.cells s) ((slAV 2 Vec.av) s.Vertices) rfl ag31 (.opt (.tmp rfl) hg) rfl) rfl (lt_b rfl) ?_
              refine GoT.g2 rfl rfl rfl (fun hg => QEx.cal0 (r := (iAV r15)) [((slAV 2 Vec.av) s.Vertices)] rfl Tryz.call85 (.cons (.opt (.tmp rfl) hg) .nil) (polygon_Area_ok (gcall hr15 hg)) rfl rfl) rfl (lt_b rfl) ?_
              refine GoT.g2 rfl rfl rfl (fun hg => QEx.lssK rfl (.opt (.tmp rfl) hg) .con) rfl (lt_b rfl) ?_
              refine GoT.g rfl rfl rfl (fun hg => QEx.pickK rfl (.opt (.tmp rfl) hg) (fun hp => .con) (fun hp => (.opt (.tmp rfl) (and_i hg (beq_f hp))))) rfl (lt_b rfl) ?_
              refine GoT.q rfl (QEx.pickK rfl (.tmp rfl) (fun hp => (.opt (.tmp rfl) (beq_t hp))) (fun hp => .con)) rfl (lt_b rfl) ?_
              refine GoT.q rfl (QEx.eq (QEx.assign rfl (.tmp rfl)) (congrArg boolAV hx16)) rfl (lt_b rfl) ?_
              refine GoT.nil ?_
              refine Wp.condS h rfl (fun h => ?_) (fun h => ?_)
              · refine Wp.seq ?_
                refine Wp.region ?_
                refine GoT.q rfl (QEx.as (iAV 12) (QEx.assign rfl .con)) rfl (lt_b rfl) ?_
                refine GoT.nil ?_
                refine Wp.ret ?_
                cases h
                exact LeafQ.ret [] (by decide) (.cons (.tmp rfl) .nil) rfl
              · refine Wp.skip ?_
                refine Wp.seq ?_
                refine Wp.region ?_
                refine GoT.q rfl (QEx.as (iAV 0) (QEx.assign rfl .con)) rfl (lt_b rfl) ?_
                refine GoT.nil ?_
                refine Wp.ret ?_
                cases h
                exact LeafQ.ret [] (by decide) (.cons (.tmp rfl) .nil) rfl
        · refine let_e h fun x6 hx6 h => ?_
          refine Wp.seq ?_
          refine Wp.region ?_
          refine GoT.q rfl (QEx.fldP 0 rfl uT33 rfl ts30 rfl (.tmp rfl) rfl) rfl (lt_b rfl) ?_
          refine GoT.qr rfl rfl (QEx.ldP1 (Shape.cells s) (iAV s.Kind) rfl ag30 (.tmp rfl) rfl) rfl (lt_b rfl) ?_
          refine GoT.q rfl (QEx.eqlK rfl (.tmp rfl) .con) rfl (lt_b rfl) ?_
          refine GoT.q rfl (QEx.move rfl (.tmp rfl)) rfl (lt_b rfl) ?_
          refine GoT.g rfl rfl rfl (fun hg => QEx.fldP 1 rfl uT33 rfl ts3 rfl (.tmp rfl) rfl) rfl (lt_b rfl) ?_
          refine GoT.gr rfl rfl rfl rfl (fun hg => QEx.ldP1 (Shape.cells s) (iAV s.Radius) rfl ag3 (.opt (.tmp rfl) hg) rfl) rfl (lt_b rfl) ?_
          refine GoT.g rfl rfl rfl (fun hg => QEx.neqK rfl (.opt (.tmp rfl) hg) .con) rfl (lt_b rfl) ?_
          refine GoT.q rfl (QEx.pickK rfl (.tmp rfl) (fun hp => (.opt (.tmp rfl) (beq_t hp))) (fun hp => .con)) rfl (lt_b rfl) ?_
          refine GoT.q rfl (QEx.eq (QEx.assign rfl (.tmp rfl)) (congrArg boolAV hx6)) rfl (lt_b rfl) ?_
          refine GoT.nil ?_
          refine Wp.condS h rfl (fun h => ?_) (fun h => ?_)
          · refine Wp.skip ?_
            exact Joined1.mk x6 [] [] h (LS.to.mk (.r rfl rfl (.b rfl rfl .n)) (.b rfl rfl rfl .n) rfl)
          · refine let_e h fun x7 hx7 h => ?_
            refine Wp.region ?_
            refine GoT.q rfl (QEx.fldP 0 rfl uT33 rfl ts30 rfl (.tmp rfl) rfl) rfl (lt_b rfl) ?_
            refine GoT.qr rfl rfl (QEx.ldP1 (Shape.cells s) (iAV s.Kind) rfl ag30 (.tmp rfl) rfl) rfl (lt_b rfl) ?_
            refine GoT.q rfl (QEx.neqK rfl (.tmp rfl) .con) rfl (lt_b rfl) ?_
            refine GoT.q rfl (QEx.move rfl (.tmp rfl)) rfl (lt_b rfl) ?_
            refine GoT.g rfl rfl rfl (fun hg => QEx.fldP 1 rfl uT33 rfl ts3 rfl (.tmp rfl) rfl) rfl (lt_b rfl) ?_
            refine GoT.gr rfl rfl rfl rfl (fun hg => QEx.ldP1 (Shape.cells s) (iAV s.Radius) rfl ag3 (.opt (.tmp rfl) hg) rfl) rfl (lt_b rfl) ?_
            refine GoT.g rfl rfl rfl (fun hg => QEx.lssK rfl (.opt (.tmp rfl) hg) .con) rfl (lt_b rfl) ?_
            refine GoT.g rfl rfl rfl (fun hg => QEx.move rfl (.opt (.tmp rfl) hg)) rfl (lt_b rfl) ?_
            refine GoT.g2 rfl rfl rfl (fun hg => QEx.fldP 1 rfl uT33 rfl ts3 rfl (.tmp rfl) rfl) rfl (lt_b rfl) ?_
            refine GoT.gr2 rfl rfl rfl rfl (fun hg => QEx.ldP1 (Shape.cells s) (iAV s.Radius) rfl ag3 (.opt (.tmp rfl) hg) rfl) rfl (lt_b rfl) ?_
            refine GoT.g2 rfl rfl rfl (fun hg => QEx.gtrK rfl (.opt (.tmp rfl) hg) .con) rfl (lt_b rfl) ?_
            refine GoT.g rfl rfl rfl (fun hg => QEx.pickK rfl (.opt (.tmp rfl) hg) (fun hp => .con) (fun hp => (.opt (.tmp rfl) (and_i hg (beq_f hp))))) rfl (lt_b rfl) ?_
            refine GoT.q rfl (QEx.pickK rfl (.tmp rfl) (fun hp => (.opt (.tmp rfl) (beq_t hp))) (fun hp => .con)) rfl (lt_b rfl) ?_
            refine GoT.q rfl (QEx.eq (QEx.assign rfl (.tmp rfl)) (congrArg boolAV hx7)) rfl (lt_b rfl) ?_
            refine GoT.nil ?_
            exact Joined1.mk x7 [] [] h (LS.to.mk (.r rfl rfl (.b rfl rfl .n)) (.b rfl rfl rfl .n) rfl)
theorem fixed_Mul_ok {a : Int} {b : Int} {r : Int} (h : fixed_Mul a b = some r) : FnR Tryz.prog 62 [(iAV a), (iAV b)] (iAV r) := by
  refine FnR.intro' (fn := Tryz.f62) (N := 12) Tryz.func62 rfl rfl (Nat.le_of_ble_eq_true rfl) [] ?_
  refine Wp.seq ?_
  refine Wp.region ?_
  refine GoT.q rfl (QEx.as (iAV 0) (QEx.assign rfl .con)) rfl (lt_b rfl) ?_
  refine GoT.nil ?_
  refine let_e h fun r1 hr1 h => ?_
  refine let_e h fun r2 hr2 h => ?_
  refine bind_e h fun r3 hr3 h => ?_
  refine let_e h fun r4 hr4 h => ?_
  refine Wp.seq ?_
  refine Wp.region ?_
  refine GoT.q rfl (QEx.move rfl (.tmp rfl)) rfl (lt_b rfl) ?_
  refine GoT.q rfl (QEx.cal0 (r := (iAV r1)) [(iAV a)] rfl Tryz.call117 (.cons (.tmp rfl) .nil) (fixed_Saturate_ok hr1) rfl rfl) rfl (lt_b rfl) ?_
  refine GoT.q rfl (QEx.move rfl (.tmp rfl)) rfl (lt_b rfl) ?_
  refine GoT.q rfl (QEx.cal0 (r := (iAV r2)) [(iAV b)] rfl Tryz.call117 (.cons (.tmp rfl) .nil) (fixed_Saturate_ok hr2) rfl rfl) rfl (lt_b rfl) ?_
  refine GoT.q rfl (QEx.mulK rfl (.tmp rfl) (.tmp rfl)) rfl (lt_b rfl) ?_
  refine GoT.q rfl (QEx.cal0 (r := (iAV r3)) [(iAV (w64 (r1 * r2))), (iAV 65536)] rfl Tryz.call118 (.cons (.tmp rfl) (.cons .con .nil)) (fixed_RoundDiv_ok hr3) rfl rfl) rfl (lt_b rfl) ?_
  refine GoT.q rfl (QEx.cal0 (r := (iAV r4)) [(iAV r3)] rfl Tryz.call117 (.cons (.tmp rfl) .nil) (fixed_Saturate_ok hr4) rfl rfl) rfl (lt_b rfl) ?_
  refine GoT.q rfl (QEx.assign rfl (.tmp rfl)) rfl (lt_b rfl) ?_
  refine GoT.nil ?_
  refine Wp.ret ?_
  cases h
  exact LeafQ.ret [] (by decide) (.cons (.tmp rfl) .nil) rfl
theorem massdata_ofCircle_ok {s : Shape} {density : Int} {r : MassData} (h : massdata_ofCircle s density = some r) : FnR Tryz.prog 139 [(Shape.av s), (iAV density)] (MassData.av r) := by
  refine FnR.intro' (fn := Tryz.f139) (N := 26) Tryz.func139 rfl rfl (Nat.le_of_ble_eq_true rfl) [2, 4] ?_
  refine Wp.seq ?_
  refine Wp.region ?_
  refine GoT.a rfl (AEx.bx (Z := (Shape.cells s)) rfl (.tmp rfl) rfl rfl rfl rfl) rfl (lt_b rfl) ?_
  refine GoT.a rfl (AEx.alZ rfl zt49 rfl rfl) rfl (lt_b rfl) ?_
  refine GoT.nil ?_
  refine bind_e h fun r1 hr1 h => ?_
  refine Wp.seq ?_
  refine Wp.region ?_
  refine GoT.q rfl (QEx.fldP 1 rfl uT33 rfl ts3 rfl (.tmp rfl) rfl) rfl (lt_b rfl) ?_
  refine GoT.qr rfl rfl (QEx.ldP1 (Shape.cells s) (iAV s.Radius) rfl ag3 (.tmp rfl) rfl) rfl (lt_b rfl) ?_
  refine GoT.q rfl (QEx.fldP 1 rfl uT33 rfl ts3 rfl (.tmp rfl) rfl) rfl (lt_b rfl) ?_
  refine GoT.qr rfl rfl (QEx.ldP1 (Shape.cells s) (iAV s.Radius) rfl ag3 (.tmp rfl) rfl) rfl (lt_b rfl) ?_
  refine GoT.q rfl (QEx.cal0 (r := (iAV r1)) [(iAV s.Radius), (iAV s.Radius)] rfl Tryz.call62 (.cons (.tmp rfl) (.cons (.tmp rfl) .nil)) (fixed_Mul_ok hr1) rfl rfl) rfl (lt_b rfl) ?_
  refine GoT.q rfl (QEx.assign rfl (.tmp rfl)) rfl (lt_b rfl) ?_
  refine GoT.nil ?_
  refine bind_e h fun r2 hr2 h => ?_
  refine bind_e h fun r3 hr3 h => ?_
  refine Wp.seq ?_
  refine Wp.region ?_
  refine GoT.q rfl (QEx.move rfl (.tmp rfl)) rfl (lt_b rfl) ?_
  refine GoT.q rfl (QEx.cal0 (r := (iAV r2)) [(iAV 205888), (iAV r1)] rfl Tryz.call62 (.cons .con (.cons (.tmp rfl) .nil)) (fixed_Mul_ok hr2) rfl rfl) rfl (lt_b rfl) ?_
  refine GoT.q rfl (QEx.move rfl (.tmp rfl)) rfl (lt_b rfl) ?_
  refine GoT.q rfl (QEx.cal0 (r := (iAV r3)) [(iAV r2), (iAV density)] rfl Tryz.call62 (.cons (.tmp rfl) (.cons (.tmp rfl) .nil)) (fixed_Mul_ok hr3) rfl rfl) rfl (lt_b rfl) ?_
  refine GoT.q rfl (QEx.assign rfl (.tmp rfl)) rfl (lt_b rfl) ?_
  refine GoT.nil ?_
  refine chk_e h fun c4 h => ?_
  refine bind_e h fun r5 hr5 h => ?_
  refine bind_e h fun r6 hr6 h => ?_
  refine let_e h fun x7 hx7 h => ?_
  refine Wp.seq ?_
  refine Wp.drawn2 (n0 := 11) [] mixed ?_
  refine GoD.q rfl (QEx.move rfl (.tmp rfl)) rfl (lt_b rfl) ?_
  refine GoD.q rfl (QEx.fldP 2 rfl uT33 rfl ts31 rfl (.tmp rfl) rfl) rfl (lt_b rfl) ?_
  refine GoD.qr rfl rfl (QEx.ldP1 (Shape.cells s) ((slAV 2 Vec.av) s.Vertices) rfl ag31 (.tmp rfl) rfl) rfl (lt_b rfl) ?_
  refine GoD.q rfl (QEx.as (.cptr (Vec.cells (ix s.Vertices 0))) (QEx.idxL (E := Vec.av) rfl et31 (.tmp rfl) .con c4)) rfl (lt_b rfl) ?_
  refine GoD.q rfl (QEx.ldC (x := (Vec.av (ix s.Vertices 0))) rfl ag24 ts24 (.tmp rfl) (.inl ⟨rfl, rfl, rfl⟩)) rfl (lt_b rfl) ?_
  refine GoD.q rfl (QEx.move rfl (.tmp rfl)) rfl (lt_b rfl) ?_
  refine GoD.q rfl (QEx.move rfl (.tmp rfl)) rfl (lt_b rfl) ?_
  refine GoD.q rfl (QEx.cal0 (r := (iAV r5)) [(iAV r1), (iAV 2)] rfl Tryz.call118 (.cons (.tmp rfl) (.cons .con .nil)) (fixed_RoundDiv_ok hr5) rfl rfl) rfl (lt_b rfl) ?_
  refine GoD.q rfl (QEx.cal0 (r := (iAV r6)) [(iAV r3), (iAV r5)] rfl Tryz.call62 (.cons (.tmp rfl) (.cons (.tmp rfl) .nil)) (fixed_Mul_ok hr6) rfl rfl) rfl (lt_b rfl) ?_
  refine GoD.q rfl (QEx.as (MassData.av (⟨r3, (ix s.Vertices 0), r6⟩ : MassData)) (QEx.buildZ rfl uT49 zt49 (by kernel_rfl) (.cons rfl (.tmp rfl) rfl rfl (le_b rfl) (.cons rfl (.tmp rfl) rfl rfl (le_b rfl) (.cons rfl (.tmp rfl) rfl rfl (le_b rfl) .nil))))) rfl (lt_b rfl) ?_
  refine GoD.s rfl (Z := (MassData.cells x7)) rfl rfl ts49 (.tmp rfl) rfl (.tmp rfl) rfl rfl (le_b rfl) (congrArg (fun (x : MassData) => (MassData.cells x)) hx7) ?_
  refine GoD.nil ⟨by kernel_rfl, by kernel_rfl, by kernel_rfl, by kernel_rfl, by kernel_rfl, ?_⟩
  refine GoT.nil ?_
  refine Wp.ret ?_
  cases h
  exact LeafQ.ret [] (by decide) (.cons (.agg rfl rfl ag49 ts49) .nil) rfl
theorem fixed_Add_ok {a : Int} {b : Int} {r : Int} (h : fixed_Add a b = r) : FnR Tryz.prog 61 [(iAV a), (iAV b)] (iAV r) := by
  refine FnR.intro' (fn := Tryz.f61) (N := 11) Tryz.func61 rfl rfl (Nat.le_of_ble_eq_true rfl) [] ?_
  refine Wp.seq ?_
  refine Wp.region ?_
  refine GoT.q rfl (QEx.as (iAV 0) (QEx.assign rfl .con)) rfl (lt_b rfl) ?_
  refine GoT.nil ?_
  refine let_e h fun r1 hr1 h => ?_
  refine let_e h fun r2 hr2 h => ?_
  refine let_e h fun r3 hr3 h => ?_
  refine Wp.seq ?_
  refine Wp.region ?_
  refine GoT.q rfl (QEx.move rfl (.tmp rfl)) rfl (lt_b rfl) ?_
  refine GoT.q rfl (QEx.cal0 (r := (iAV r1)) [(iAV a)] rfl Tryz.call117 (.cons (.tmp rfl) .nil) (fixed_Saturate_ok hr1) rfl rfl) rfl (lt_b rfl) ?_
  refine GoT.q rfl (QEx.move rfl (.tmp rfl)) rfl (lt_b rfl) ?_
  refine GoT.q rfl (QEx.cal0 (r := (iAV r2)) [(iAV b)] rfl Tryz.call117 (.cons (.tmp rfl) .nil) (fixed_Saturate_ok hr2) rfl rfl) rfl (lt_b rfl) ?_
  refine GoT.q rfl (QEx.addK rfl (.tmp rfl) (.tmp rfl)) rfl (lt_b rfl) ?_
  refine GoT.q rfl (QEx.cal0 (r := (iAV r3)) [(iAV (w64 (r1 + r2)))] rfl Tryz.call117 (.cons (.tmp rfl) .nil) (fixed_Saturate_ok hr3) rfl rfl) rfl (lt_b rfl) ?_
  refine GoT.q rfl (QEx.assign rfl (.tmp rfl)) rfl (lt_b rfl) ?_
  refine GoT.nil ?_
  refine Wp.ret ?_
  cases h
  exact LeafQ.ret [] (by decide) (.cons (.tmp rfl) .nil) rfl
theorem fixed_Lerp_ok {a : Int} {b : Int} {t : Int} {r : Int} (h : fixed_Lerp a b t = some r) : FnR Tryz.prog 181 [(iAV a), (iAV b), (iAV t)] (iAV r) := by
  refine FnR.intro' (fn := Tryz.f181) (N := 14) Tryz.func181 rfl rfl (Nat.le_of_ble_eq_true rfl) [] ?_
  refine Wp.seq ?_
  refine Wp.region ?_
  refine GoT.q rfl (QEx.as (iAV 0) (QEx.assign rfl .con)) rfl (lt_b rfl) ?_
  refine GoT.nil ?_
  refine let_e h fun r1 hr1 h => ?_
  refine bind_e h fun r2 hr2 h => ?_
  refine let_e h fun r3 hr3 h => ?_
  refine Wp.seq ?_
  refine Wp.region ?_
  refine GoT.q rfl (QEx.move rfl (.tmp rfl)) rfl (lt_b rfl) ?_
  refine GoT.q rfl (QEx.move rfl (.tmp rfl)) rfl (lt_b rfl) ?_
  refine GoT.q rfl (QEx.move rfl (.tmp rfl)) rfl (lt_b rfl) ?_
  refine GoT.q rfl (QEx.cal0 (r := (iAV r1)) [(iAV b), (iAV a)] rfl Tryz.call111 (.cons (.tmp rfl) (.cons (.tmp rfl) .nil)) (fixed_Sub_ok hr1) rfl rfl) rfl (lt_b rfl) ?_
  refine GoT.q rfl (QEx.move rfl (.tmp rfl)) rfl (lt_b rfl) ?_
  refine GoT.q rfl (QEx.cal0 (r := (iAV r2)) [(iAV r1), (iAV t)] rfl Tryz.call62 (.cons (.tmp rfl) (.cons (.tmp rfl) .nil)) (fixed_Mul_ok hr2) rfl rfl) rfl (lt_b rfl) ?_
  refine GoT.q rfl (QEx.cal0 (r := (iAV r3)) [(iAV a), (iAV r2)] rfl Tryz.call61 (.cons (.tmp rfl) (.cons (.tmp rfl) .nil)) (fixed_Add_ok hr3) rfl rfl) rfl (lt_b rfl) ?_
  refine GoT.q rfl (QEx.assign rfl (.tmp rfl)) rfl (lt_b rfl) ?_
  refine GoT.nil ?_
  refine Wp.ret ?_
  cases h
  exact LeafQ.ret [] (by decide) (.cons (.tmp rfl) .nil) rfl
theorem vec2_Lerp_ok {a : Vec} {b : Vec} {t : Int} {r : Vec} (h : vec2_Lerp a b t = some r) : FnR Tryz.prog 162 [(Vec.av a), (Vec.av b), (iAV t)] (Vec.av r) := by
  refine FnR.intro' (fn := Tryz.f162) (N := 20) Tryz.func162 rfl rfl (Nat.le_of_ble_eq_true rfl) [3, 4, 6] ?_
  refine Wp.seq ?_
  refine Wp.region ?_
  refine GoT.a rfl (AEx.bx (Z := (Vec.cells a)) rfl (.tmp rfl) rfl rfl rfl rfl) rfl (lt_b rfl) ?_
  refine GoT.a rfl (AEx.bx (Z := (Vec.cells b)) rfl (.tmp rfl) rfl rfl rfl rfl) rfl (lt_b rfl) ?_
  refine GoT.a rfl (AEx.alZ rfl zt24 rfl rfl) rfl (lt_b rfl) ?_
  refine GoT.nil ?_
  refine bind_e h fun r1 hr1 h => ?_
  refine bind_e h fun r2 hr2 h => ?_
  refine let_e h fun x3 hx3 h => ?_
  refine Wp.seq ?_
  refine Wp.drawn2 (n0 := 14) [] mixed ?_
  refine GoD.q rfl (QEx.fldP 0 rfl uT24 rfl ts3 rfl (.tmp rfl) rfl) rfl (lt_b rfl) ?_
  refine GoD.qr rfl rfl (QEx.ldP1 (Vec.cells a) (iAV a.X) rfl ag3 (.tmp rfl) rfl) rfl (lt_b rfl) ?_
  refine GoD.q rfl (QEx.fldP 0 rfl uT24 rfl ts3 rfl (.tmp rfl) rfl) rfl (lt_b rfl) ?_
  refine GoD.qr rfl rfl (QEx.ldP1 (Vec.cells b) (iAV b.X) rfl ag3 (.tmp rfl) rfl) rfl (lt_b rfl) ?_
  refine GoD.q rfl (QEx.move rfl (.tmp rfl)) rfl (lt_b rfl) ?_
  refine GoD.q rfl (QEx.cal0 (r := (iAV r1)) [(iAV a.X), (iAV b.X), (iAV t)] rfl Tryz.call181 (.cons (.tmp rfl) (.cons (.tmp rfl) (.cons (.tmp rfl) .nil))) (fixed_Lerp_ok hr1) rfl rfl) rfl (lt_b rfl) ?_
  refine GoD.q rfl (QEx.fldP 1 rfl uT24 rfl ts3 rfl (.tmp rfl) rfl) rfl (lt_b rfl) ?_
  refine GoD.qr rfl rfl (QEx.ldP1 (Vec.cells a) (iAV a.Y) rfl ag3 (.tmp rfl) rfl) rfl (lt_b rfl) ?_
  refine GoD.q rfl (QEx.fldP 1 rfl uT24 rfl ts3 rfl (.tmp rfl) rfl) rfl (lt_b rfl) ?_
  refine GoD.qr rfl rfl (QEx.ldP1 (Vec.cells b) (iAV b.Y) rfl ag3 (.tmp rfl) rfl) rfl (lt_b rfl) ?_
  refine GoD.q rfl (QEx.move rfl (.tmp rfl)) rfl (lt_b rfl) ?_
  refine GoD.q rfl (QEx.cal0 (r := (iAV r2)) [(iAV a.Y), (iAV b.Y), (iAV t)] rfl Tryz.call181 (.cons (.tmp rfl) (.cons (.tmp rfl) (.cons (.tmp rfl) .nil))) (fixed_Lerp_ok hr2) rfl rfl) rfl (lt_b rfl) ?_
  refine GoD.q rfl (QEx.as (Vec.av (⟨r1, r2⟩ : Vec)) (QEx.buildZ rfl uT24 zt24 (by kernel_rfl) (.cons rfl (.tmp rfl) rfl rfl (le_b rfl) (.cons rfl (.tmp rfl) rfl rfl (le_b rfl) .nil)))) rfl (lt_b rfl) ?_
  refine GoD.s rfl (Z := (Vec.cells x3)) rfl rfl ts24 (.tmp rfl) rfl (.tmp rfl) rfl rfl (le_b rfl) (congrArg (fun (x : Vec) => (Vec.cells x)) hx3) ?_
  refine GoD.nil ⟨by kernel_rfl, by kernel_rfl, by kernel_rfl, by kernel_rfl, by kernel_rfl, ?_⟩
  refine GoT.nil ?_
  refine Wp.ret ?_
  cases h
  exact LeafQ.ret [] (by decide) (.cons (.agg rfl rfl ag24 ts24) .nil) rfl
theorem massdata_ofCapsule_ok {s : Shape} {density : Int} {r : MassData} (h : massdata_ofCapsule s density = some r) : FnR Tryz.prog 140 [(Shape.av s), (iAV density)] (MassData.av r) := by
  refine FnR.intro' (fn := Tryz.f140) (N := 59) Tryz.func140 rfl rfl (Nat.le_of_ble_eq_true rfl) [2, 4] ?_
  refine Wp.seq ?_
  refine Wp.region ?_
  refine GoT.a rfl (AEx.bx (Z := (Shape.cells s)) rfl (.tmp rfl) rfl rfl rfl rfl) rfl (lt_b rfl) ?_
  refine GoT.a rfl (AEx.alZ rfl zt49 rfl rfl) rfl (lt_b rfl) ?_
  refine GoT.nil ?_
  refine bind_e h fun r1 hr1 h => ?_
  refine chk_e h fun c2 h => ?_
  refine chk_e h fun c3 h => ?_
  refine let_e h fun r4 hr4 h => ?_
  refine bind_e h fun r5 hr5 h => ?_
  refine Wp.seq ?_
  refine Wp.drawn2 (n0 := 17) [] mixed ?_
  refine GoD.q rfl (QEx.fldP 1 rfl uT33 rfl ts3 rfl (.tmp rfl) rfl) rfl (lt_b rfl) ?_
  refine GoD.qr rfl rfl (QEx.ldP1 (Shape.cells s) (iAV s.Radius) rfl ag3 (.tmp rfl) rfl) rfl (lt_b rfl) ?_
  refine GoD.q rfl (QEx.fldP 1 rfl uT33 rfl ts3 rfl (.tmp rfl) rfl) rfl (lt_b rfl) ?_
  refine GoD.qr rfl rfl (QEx.ldP1 (Shape.cells s) (iAV s.Radius) rfl ag3 (.tmp rfl) rfl) rfl (lt_b rfl) ?_
  refine GoD.q rfl (QEx.cal0 (r := (iAV r1)) [(iAV s.Radius), (iAV s.Radius)] rfl Tryz.call62 (.cons (.tmp rfl) (.cons (.tmp rfl) .nil)) (fixed_Mul_ok hr1) rfl rfl) rfl (lt_b rfl) ?_
  refine GoD.q rfl (QEx.fldP 2 rfl uT33 rfl ts31 rfl (.tmp rfl) rfl) rfl (lt_b rfl) ?_
  refine GoD.qr rfl rfl (QEx.ldP1 (Shape.cells s) ((slAV 2 Vec.av) s.Vertices) rfl ag31 (.tmp rfl) rfl) rfl (lt_b rfl) ?_
  refine GoD.q rfl (QEx.as (.cptr (Vec.cells (ix s.Vertices 1))) (QEx.idxL (E := Vec.av) rfl et31 (.tmp rfl) .con c2)) rfl (lt_b rfl) ?_
  refine GoD.q rfl (QEx.ldC (x := (Vec.av (ix s.Vertices 1))) rfl ag24 ts24 (.tmp rfl) (.inl ⟨rfl, rfl, rfl⟩)) rfl (lt_b rfl) ?_
  refine GoD.q rfl (QEx.fldP 2 rfl uT33 rfl ts31 rfl (.tmp rfl) rfl) rfl (lt_b rfl) ?_
  refine GoD.qr rfl rfl (QEx.ldP1 (Shape.cells s) ((slAV 2 Vec.av) s.Vertices) rfl ag31 (.tmp rfl) rfl) rfl (lt_b rfl) ?_
  refine GoD.q rfl (QEx.as (.cptr (Vec.cells (ix s.Vertices 0))) (QEx.idxL (E := Vec.av) rfl et31 (.tmp rfl) .con c3)) rfl (lt_b rfl) ?_
  refine GoD.q rfl (QEx.ldC (x := (Vec.av (ix s.Vertices 0))) rfl ag24 ts24 (.tmp rfl) (.inl ⟨rfl, rfl, rfl⟩)) rfl (lt_b rfl) ?_
  refine GoD.q rfl (QEx.cal0 (r := (Vec.av r4)) [(Vec.av (ix s.Vertices 1)), (Vec.av (ix s.Vertices 0))] rfl Tryz.call51 (.cons (.tmp rfl) (.cons (.tmp rfl) .nil)) (vec2_Sub_ok hr4) rfl rfl) rfl (lt_b rfl) ?_
  refine GoD.q rfl (QEx.cal0 (r := (iAV r5)) [(Vec.av r4)] rfl Tryz.call82 (.cons (.tmp rfl) .nil) (vec2_Length_ok hr5) rfl rfl) rfl (lt_b rfl) ?_
  refine GoD.q rfl (QEx.assign rfl (.tmp rfl)) rfl (lt_b rfl) ?_
  refine GoD.q rfl (QEx.assign rfl (.tmp rfl)) rfl (lt_b rfl) ?_
  refine GoD.nil ⟨by kernel_rfl, by kernel_rfl, by kernel_rfl, by kernel_rfl, by kernel_rfl, ?_⟩
  refine GoT.nil ?_
  refine bind_e h fun r6 hr6 h => ?_
  refine let_e h fun r7 hr7 h => ?_
  refine bind_e h fun r8 hr8 h => ?_
  refine let_e h fun r9 hr9 h => ?_
  refine Wp.seq ?_
  refine Wp.drawn2 (n0 := 11) [] mixed ?_
  refine GoD.q rfl (QEx.move rfl (.tmp rfl)) rfl (lt_b rfl) ?_
  refine GoD.q rfl (QEx.cal0 (r := (iAV r6)) [(iAV 205888), (iAV r1)] rfl Tryz.call62 (.cons .con (.cons (.tmp rfl) .nil)) (fixed_Mul_ok hr6) rfl rfl) rfl (lt_b rfl) ?_
  refine GoD.q rfl (QEx.fldP 1 rfl uT33 rfl ts3 rfl (.tmp rfl) rfl) rfl (lt_b rfl) ?_
  refine GoD.qr rfl rfl (QEx.ldP1 (Shape.cells s) (iAV s.Radius) rfl ag3 (.tmp rfl) rfl) rfl (lt_b rfl) ?_
  refine GoD.q rfl (QEx.fldP 1 rfl uT33 rfl ts3 rfl (.tmp rfl) rfl) rfl (lt_b rfl) ?_
  refine GoD.qr rfl rfl (QEx.ldP1 (Shape.cells s) (iAV s.Radius) rfl ag3 (.tmp rfl) rfl) rfl (lt_b rfl) ?_
  refine GoD.q rfl (QEx.cal0 (r := (iAV r7)) [(iAV s.Radius), (iAV s.Radius)] rfl Tryz.call61 (.cons (.tmp rfl) (.cons (.tmp rfl) .nil)) (fixed_Add_ok hr7) rfl rfl) rfl (lt_b rfl) ?_
  refine GoD.q rfl (QEx.move rfl (.tmp rfl)) rfl (lt_b rfl) ?_
  refine GoD.q rfl (QEx.cal0 (r := (iAV r8)) [(iAV r7), (iAV r5)] rfl Tryz.call62 (.cons (.tmp rfl) (.cons (.tmp rfl) .nil)) (fixed_Mul_ok hr8) rfl rfl) rfl (lt_b rfl) ?_
  refine GoD.q rfl (QEx.cal0 (r := (iAV r9)) [(iAV r6), (iAV r8)] rfl Tryz.call61 (.cons (.tmp rfl) (.cons (.tmp rfl) .nil)) (fixed_Add_ok hr9) rfl rfl) rfl (lt_b rfl) ?_
  refine GoD.q rfl (QEx.assign rfl (.tmp rfl)) rfl (lt_b rfl) ?_
  refine GoD.nil ⟨by kernel_rfl, by kernel_rfl, by kernel_rfl, by kernel_rfl, by kernel_rfl, ?_⟩
  refine GoT.nil ?_
  refine bind_e h fun r10 hr10 h => ?_
  refine Wp.seq ?_
  refine Wp.region ?_
  refine GoT.q rfl (QEx.move rfl (.tmp rfl)) rfl (lt_b rfl) ?_
  refine GoT.q rfl (QEx.move rfl (.tmp rfl)) rfl (lt_b rfl) ?_
  refine GoT.q rfl (QEx.cal0 (r := (iAV r10)) [(iAV r9), (iAV density)] rfl Tryz.call62 (.cons (.tmp rfl) (.cons (.tmp rfl) .nil)) (fixed_Mul_ok hr10) rfl rfl) rfl (lt_b rfl) ?_
  refine GoT.q rfl (QEx.assign rfl (.tmp rfl)) rfl (lt_b rfl) ?_
  refine GoT.nil ?_
  refine bind_e h fun r11 hr11 h => ?_
  refine bind_e h fun r12 hr12 h => ?_
  refine bind_e h fun r13 hr13 h => ?_
  refine let_e h fun r14 hr14 h => ?_
  refine Wp.seq ?_
  refine Wp.region ?_
  refine GoT.q rfl (QEx.move rfl (.tmp rfl)) rfl (lt_b rfl) ?_
  refine GoT.q rfl (QEx.cal0 (r := (iAV r11)) [(iAV r1), (iAV 2)] rfl Tryz.call118 (.cons (.tmp rfl) (.cons .con .nil)) (fixed_RoundDiv_ok hr11) rfl rfl) rfl (lt_b rfl) ?_
  refine GoT.q rfl (QEx.move rfl (.tmp rfl)) rfl (lt_b rfl) ?_
  refine GoT.q rfl (QEx.move rfl (.tmp rfl)) rfl (lt_b rfl) ?_
  refine GoT.q rfl (QEx.cal0 (r := (iAV r12)) [(iAV r5), (iAV r5)] rfl Tryz.call62 (.cons (.tmp rfl) (.cons (.tmp rfl) .nil)) (fixed_Mul_ok hr12) rfl rfl) rfl (lt_b rfl) ?_
  refine GoT.q rfl (QEx.cal0 (r := (iAV r13)) [(iAV r12), (iAV 12)] rfl Tryz.call118 (.cons (.tmp rfl) (.cons .con .nil)) (fixed_RoundDiv_ok hr13) rfl rfl) rfl (lt_b rfl) ?_
  refine GoT.q rfl (QEx.cal0 (r := (iAV r14)) [(iAV r11), (iAV r13)] rfl Tryz.call61 (.cons (.tmp rfl) (.cons (.tmp rfl) .nil)) (fixed_Add_ok hr14) rfl rfl) rfl (lt_b rfl) ?_
  refine GoT.q rfl (QEx.assign rfl (.tmp rfl)) rfl (lt_b rfl) ?_
  refine GoT.nil ?_
  refine chk_e h fun c15 h => ?_
  refine chk_e h fun c16 h => ?_
  refine bind_e h fun r17 hr17 h => ?_
  refine bind_e h fun r18 hr18 h => ?_
  refine let_e h fun x19 hx19 h => ?_
  refine Wp.seq ?_
  refine Wp.drawn2 (n0 := 15) [] mixed ?_
  refine GoD.q rfl (QEx.move rfl (.tmp rfl)) rfl (lt_b rfl) ?_
  refine GoD.q rfl (QEx.fldP 2 rfl uT33 rfl ts31 rfl (.tmp rfl) rfl) rfl (lt_b rfl) ?_
  refine GoD.qr rfl rfl (QEx.ldP1 (Shape.cells s) ((slAV 2 Vec.av) s.Vertices) rfl ag31 (.tmp rfl) rfl) rfl (lt_b rfl) ?_
  refine GoD.q rfl (QEx.as (.cptr (Vec.cells (ix s.Vertices 0))) (QEx.idxL (E := Vec.av) rfl et31 (.tmp rfl) .con c15)) rfl (lt_b rfl) ?_
  refine GoD.q rfl (QEx.ldC (x := (Vec.av (ix s.Vertices 0))) rfl ag24 ts24 (.tmp rfl) (.inl ⟨rfl, rfl, rfl⟩)) rfl (lt_b rfl) ?_
  refine GoD.q rfl (QEx.fldP 2 rfl uT33 rfl ts31 rfl (.tmp rfl) rfl) rfl (lt_b rfl) ?_
  refine GoD.qr rfl rfl (QEx.ldP1 (Shape.cells s) ((slAV 2 Vec.av) s.Vertices) rfl ag31 (.tmp rfl) rfl) rfl (lt_b rfl) ?_
  refine GoD.q rfl (QEx.as (.cptr (Vec.cells (ix s.Vertices 1))) (QEx.idxL (E := Vec.av) rfl et31 (.tmp rfl) .con c16)) rfl (lt_b rfl) ?_
  refine GoD.q rfl (QEx.ldC (x := (Vec.av (ix s.Vertices 1))) rfl ag24 ts24 (.tmp rfl) (.inl ⟨rfl, rfl, rfl⟩)) rfl (lt_b rfl) ?_
  refine GoD.q rfl (QEx.cal0 (r := (Vec.av r17)) [(Vec.av (ix s.Vertices 0)), (Vec.av (ix s.Vertices 1)), (iAV 32768)] rfl Tryz.call162 (.cons (.tmp rfl) (.cons (.tmp rfl) (.cons .con .nil))) (vec2_Lerp_ok hr17) rfl rfl) rfl (lt_b rfl) ?_
  refine GoD.q rfl (QEx.move rfl (.tmp rfl)) rfl (lt_b rfl) ?_
  refine GoD.q rfl (QEx.move rfl (.tmp rfl)) rfl (lt_b rfl) ?_
  refine GoD.q rfl (QEx.cal0 (r := (iAV r18)) [(iAV r10), (iAV r14)] rfl Tryz.call62 (.cons (.tmp rfl) (.cons (.tmp rfl) .nil)) (fixed_Mul_ok hr18) rfl rfl) rfl (lt_b rfl) ?_
  refine GoD.q rfl (QEx.as (MassData.av (⟨r10, r17, r18⟩ : MassData)) (QEx.buildZ rfl uT49 zt49 (by kernel_rfl) (.cons rfl (.tmp rfl) rfl rfl (le_b rfl) (.cons rfl (.tmp rfl) rfl rfl (le_b rfl) (.cons rfl (.tmp rfl) rfl rfl (le_b rfl) .nil))))) rfl (lt_b rfl) ?_
  refine GoD.s rfl (Z := (MassData.cells x19)) rfl rfl ts49 (.tmp rfl) rfl (.tmp rfl) rfl rfl (le_b rfl) (congrArg (fun (x : MassData) => (MassData.cells x)) hx19) ?_
  refine GoD.nil ⟨by kernel_rfl, by kernel_rfl, by kernel_rfl, by kernel_rfl, by kernel_rfl, ?_⟩
  refine GoT.nil ?_
  refine Wp.ret ?_
  cases h
  exact LeafQ.ret [] (by decide) (.cons (.agg rfl rfl ag49 ts49) .nil) rfl
theorem polygon_Centroid_ok {vertices : List Vec} {r : Vec} (h : polygon_Centroid vertices = some r) : FnR Tryz.prog 163 [((slAV 2 Vec.av) vertices)] (Vec.av r) := by
  refine FnR.intro' (fn := Tryz.f163) (N := 73) Tryz.func163 rfl rfl (Nat.le_of_ble_eq_true rfl) [2, 3, 8, 9, 14, 15, 20, 23, 54, 63] ?_
  refine Wp.seq ?_
  refine Wp.region ?_
  refine GoT.a rfl (AEx.alZ rfl zt24 rfl rfl) rfl (lt_b rfl) ?_
  refine GoT.nil ?_
  refine Wp.seq ?_
  refine bind_e h fun r1 hr1 h => ?_
  refine Wp.seq ?_
  refine Wp.region ?_
  refine GoT.q rfl (QEx.move rfl (.tmp rfl)) rfl (lt_b rfl) ?_
  refine GoT.q rfl (QEx.cal0 (r := (boolAV r1)) [((slAV 2 Vec.av) vertices)] rfl Tryz.call83 (.cons (.tmp rfl) .nil) (polygon_IsConvex_ok hr1) rfl rfl) rfl (lt_b rfl) ?_
  refine GoT.q rfl (QEx.notK rfl (.tmp rfl)) rfl (lt_b rfl) ?_
  refine GoT.nil ?_
  refine Wp.condS h rfl (fun h => ?_) (fun h => ?_)
  · refine let_e h fun x2 hx2 h => ?_
    refine Wp.seq ?_
    refine Wp.region ?_
    refine GoT.q rfl (QEx.as (Vec.av (⟨0, 0⟩ : Vec)) (QEx.buildZ rfl uT24 zt24 (by kernel_rfl) .nil)) rfl (lt_b rfl) ?_
    refine GoT.s rfl (AEx.sto (Z := (Vec.cells x2)) rfl rfl ts24 (.tmp rfl) rfl (.tmp rfl) rfl rfl (le_b rfl) (congrArg (fun (x : Vec) => (Vec.cells x)) hx2)) rfl ?_
    refine GoT.nil ?_
    refine Wp.ret ?_
    cases h
    exact LeafQ.ret [] (by decide) (.cons (.agg rfl rfl ag24 ts24) .nil) rfl
  · refine Wp.skip ?_
    refine bind_e h fun r3 hr3 h => ?_
    refine Wp.seq ?_
    refine Wp.region ?_
    refine GoT.q rfl (QEx.move rfl (.tmp rfl)) rfl (lt_b rfl) ?_
    refine GoT.c rfl (QEx.cal (r' := (.tup [(slT 15 0 5 polygon_triangle.av r3.1), (iAV r3.2)])) [((slAV 2 Vec.av) vertices)] rfl Tryz.call132 (.cons (.tmp rfl) .nil) (polygon_fan_ok hr3) rfl rfl rfl) rfl rfl (lt_b rfl) ?_
    refine GoT.q rfl (QEx.move rfl (.tmp rfl)) rfl (lt_b rfl) ?_
    refine GoT.q rfl (QEx.extract rfl (.tmp rfl) rfl) rfl (lt_b rfl) ?_
    refine GoT.q rfl (QEx.extract rfl (.tmp rfl) rfl) rfl (lt_b rfl) ?_
    refine GoT.q rfl (QEx.assign rfl (.tmp rfl)) rfl (lt_b rfl) ?_
    refine GoT.q rfl (QEx.assign rfl (.tmp rfl)) rfl (lt_b rfl) ?_
    refine GoT.nil ?_
    refine Wp.seq ?_
    refine Wp.seq ?_
    refine Wp.region ?_
    refine GoT.q rfl (QEx.move rfl (.tmp rfl)) rfl (lt_b rfl) ?_
    refine GoT.q rfl (QEx.eqlK rfl (.tmp rfl) .con) rfl (lt_b rfl) ?_
    refine GoT.nil ?_
    refine Wp.condS h rfl (fun h => ?_) (fun h => ?_)
    · refine chk_e h fun c4 h => ?_
      refine let_e h fun x5 hx5 h => ?_
      refine Wp.seq ?_
      refine Wp.region ?_
      refine GoT.q rfl (QEx.move rfl (.tmp rfl)) rfl (lt_b rfl) ?_
      refine GoT.q rfl (QEx.as (.cptr (Vec.cells (ix vertices 0))) (QEx.idxL (E := Vec.av) rfl et31 (.tmp rfl) .con c4)) rfl (lt_b rfl) ?_
      refine GoT.q rfl (QEx.ldC (x := (Vec.av (ix vertices 0))) rfl ag24 ts24 (.tmp rfl) (.inl ⟨rfl, rfl, rfl⟩)) rfl (lt_b rfl) ?_
      refine GoT.s rfl (AEx.sto (Z := (Vec.cells x5)) rfl rfl ts24 (.tmp rfl) rfl (.tmp rfl) rfl rfl (le_b rfl) (congrArg (fun (x : Vec) => (Vec.cells x)) hx5)) rfl ?_
      refine GoT.nil ?_
      refine Wp.ret ?_
      cases h
      exact LeafQ.ret [] (by decide) (.cons (.agg rfl rfl ag24 ts24) .nil) rfl
    · refine Wp.skip ?_
      refine Wp.seq ?_
      refine Wp.region ?_
      refine GoT.q rfl (QEx.as (iAV 0) (QEx.assign rfl .con)) rfl (lt_b rfl) ?_
      refine GoT.q rfl (QEx.as (iAV 0) (QEx.assign rfl .con)) rfl (lt_b rfl) ?_
      refine GoT.nil ?_
      refine Wp.join2 (fun v6 v7 => ⟨[(0, ((slAV 2 Vec.av) vertices)), (2, (.ptr 2 0)), (4, (iAV r3.2)), (5, (iAV v6)), (6, (iAV v7))], [(2, .cells (Vec.cells Vec.zero))], [3, 8, 9, 14, 15, 20, 23, 54, 63]⟩) (fun v6 v7 => (polygon_Centroid_j2 vertices r3) v6 v7 = some r) ?_ ?_
      · intro v6 v7 h
        refine chk_e h fun c16 h => ?_
        refine bind_e h fun r17 hr17 h => ?_
        refine chk_e h fun c18 h => ?_
        refine bind_e h fun r19 hr19 h => ?_
        refine let_e h fun x20 hx20 h => ?_
        refine Wp.seq ?_
        refine Wp.drawn2 (n0 := 20) [3, 8, 9, 14, 15, 20, 23, 54, 63] mixed ?_
        refine GoD.q rfl (QEx.move rfl (.tmp rfl)) rfl (lt_b rfl) ?_
        refine GoD.q rfl (QEx.as (.cptr (Vec.cells (ix vertices 0))) (QEx.idxL (E := Vec.av) rfl et31 (.tmp rfl) .con c16)) rfl (lt_b rfl) ?_
        refine GoD.q rfl (QEx.fldC [(iAV ((ix vertices 0).X))] rfl uT24 rfl ts3 rfl (.tmp rfl) rfl) rfl (lt_b rfl) ?_
        refine GoD.q rfl (QEx.ldC (x := (iAV ((ix vertices 0).X))) rfl ag3 ts3 (.tmp rfl) (.inr ⟨rfl, rfl⟩)) rfl (lt_b rfl) ?_
        refine GoD.q rfl (QEx.move rfl (.tmp rfl)) rfl (lt_b rfl) ?_
        refine GoD.q rfl (QEx.move rfl (.tmp rfl)) rfl (lt_b rfl) ?_
        refine GoD.q rfl (QEx.mulK rfl .con (.tmp rfl)) rfl (lt_b rfl) ?_
        refine GoD.q rfl (QEx.cal0 (r := (iAV r17)) [(iAV v6), (iAV (w64 (3 * r3.2)))] rfl Tryz.call118 (.cons (.tmp rfl) (.cons (.tmp rfl) .nil)) (fixed_RoundDiv_ok hr17) rfl rfl) rfl (lt_b rfl) ?_
        refine GoD.q rfl (QEx.addK rfl (.tmp rfl) (.tmp rfl)) rfl (lt_b rfl) ?_
        refine GoD.q rfl (QEx.move rfl (.tmp rfl)) rfl (lt_b rfl) ?_
        refine GoD.q rfl (QEx.as (.cptr (Vec.cells (ix vertices 0))) (QEx.idxL (E := Vec.av) rfl et31 (.tmp rfl) .con c18)) rfl (lt_b rfl) ?_
        refine GoD.q rfl (QEx.fldC [(iAV ((ix vertices 0).Y))] rfl uT24 rfl ts3 rfl (.tmp rfl) rfl) rfl (lt_b rfl) ?_
        refine GoD.q rfl (QEx.ldC (x := (iAV ((ix vertices 0).Y))) rfl ag3 ts3 (.tmp rfl) (.inr ⟨rfl, rfl⟩)) rfl (lt_b rfl) ?_
        refine GoD.q rfl (QEx.move rfl (.tmp rfl)) rfl (lt_b rfl) ?_
        refine GoD.q rfl (QEx.move rfl (.tmp rfl)) rfl (lt_b rfl) ?_
        refine GoD.q rfl (QEx.mulK rfl .con (.tmp rfl)) rfl (lt_b rfl) ?_
        refine GoD.q rfl (QEx.cal0 (r := (iAV r19)) [(iAV v7), (iAV (w64 (3 * r3.2)))] rfl Tryz.call118 (.cons (.tmp rfl) (.cons (.tmp rfl) .nil)) (fixed_RoundDiv_ok hr19) rfl rfl) rfl (lt_b rfl) ?_
        refine GoD.q rfl (QEx.addK rfl (.tmp rfl) (.tmp rfl)) rfl (lt_b rfl) ?_
        refine GoD.q rfl (QEx.as (Vec.av (⟨(w64 (((ix vertices 0).X) + r17)), (w64 (((ix vertices 0).Y) + r19))⟩ : Vec)) (QEx.buildZ rfl uT24 zt24 (by kernel_rfl) (.cons rfl (.tmp rfl) rfl rfl (le_b rfl) (.cons rfl (.tmp rfl) rfl rfl (le_b rfl) .nil)))) rfl (lt_b rfl) ?_
        refine GoD.s rfl (Z := (Vec.cells x20)) rfl rfl ts24 (.tmp rfl) rfl (.tmp rfl) rfl rfl (le_b rfl) (congrArg (fun (x : Vec) => (Vec.cells x)) hx20) ?_
        refine GoD.nil ⟨by kernel_rfl, by kernel_rfl, by kernel_rfl, by kernel_rfl, by kernel_rfl, ?_⟩
        refine GoT.nil ?_
        refine Wp.ret ?_
        cases h
        exact LeafQ.ret [] (by decide) (.cons (.agg rfl rfl ag24 ts24) .nil) rfl
      · refine Wp.seq ?_
        refine Wp.region ?_
        refine GoT.q rfl (QEx.move rfl (.tmp rfl)) rfl (lt_b rfl) ?_
        refine GoT.q rfl (QEx.lenL rfl ⟨_, uT109⟩ (.tmp rfl)) rfl (lt_b rfl) ?_
        refine GoT.q rfl (QEx.as (iAV 0) (QEx.move rfl .con)) rfl (lt_b rfl) ?_
        refine GoT.nil ?_
        refine Wp.block ?_
        refine Wp.loop3 (fun v8 v9 v10 => ⟨[(0, ((slAV 2 Vec.av) vertices)), (2, (.ptr 2 0)), (4, (iAV r3.2)), (5, (iAV v8)), (6, (iAV v9)), (23, (slT 15 0 5 polygon_triangle.av r3.1)), (24, (iAV ((r3.1).length : Int))), (25, (iAV v10))], [(2, .cells (Vec.cells Vec.zero))], [3, 8, 9, 14, 20, 23, 54, 63]⟩) (fun n v8 v9 v10 => polygon_Centroid_l1 r3 (polygon_Centroid_j2 vertices r3) n v8 v9 v10 = some r) fuel 0 0 0 [] [] h (LS.to.mk (.b rfl rfl (.r rfl rfl (.b rfl rfl (.b rfl rfl (.b rfl rfl (.r rfl rfl (.b rfl rfl (.b rfl rfl .n)))))))) (.b rfl rfl rfl .n) rfl) ?_
        rintro (_ | n2) v8 v9 v10 h
        · exact none_e h
        rw [polygon_Centroid_l1] at h
        refine Wp.seq ?_
        refine Wp.region ?_
        refine GoT.q rfl (QEx.lssK rfl (.tmp rfl) (.tmp rfl)) rfl (lt_b rfl) ?_
        refine GoT.nil ?_
        refine Wp.seq ?_
        refine Wp.condS h rfl (fun h => ?_) (fun h => ?_)
        · refine Wp.skip ?_
          refine Wp.seq ?_
          refine Wp.block ?_
          refine chk_e h fun c11 h => ?_
          refine let_e h fun x12 hx12 h => ?_
          refine Wp.seq ?_
          refine Wp.region ?_
          refine GoT.q rfl (QEx.as (.cptr (polygon_triangle.cells (ix r3.1 v10))) (QEx.idxL (E := polygon_triangle.av) rfl et109 (.tmp rfl) (.tmp rfl) c11)) rfl (lt_b rfl) ?_
          refine GoT.q rfl (QEx.ldC (x := (polygon_triangle.av (ix r3.1 v10))) rfl ag125 ts125 (.tmp rfl) (.inl ⟨rfl, rfl, rfl⟩)) rfl (lt_b rfl) ?_
          refine GoT.a rfl (AEx.alZ rfl zt125 rfl rfl) rfl (lt_b rfl) ?_
          refine GoT.s rfl (AEx.sto (Z := (polygon_triangle.cells x12)) rfl rfl ts125 (.tmp rfl) rfl (.tmp rfl) rfl rfl (le_b rfl) (congrArg (fun (x : polygon_triangle) => (polygon_triangle.cells x)) hx12)) rfl ?_
          refine GoT.nil ?_
          refine let_e h fun x13 hx13 h => ?_
          refine Wp.seq ?_
          refine Wp.region ?_
          refine GoT.q rfl (QEx.move rfl (.tmp rfl)) rfl (lt_b rfl) ?_
          refine GoT.q rfl (QEx.fldP 0 rfl uT125 rfl ts24 rfl (.tmp rfl) rfl) rfl (lt_b rfl) ?_
          refine GoT.q rfl (QEx.fldP 0 rfl uT24 rfl ts3 rfl (.tmp rfl) rfl) rfl (lt_b rfl) ?_
          refine GoT.qr rfl rfl (QEx.ldP1 (polygon_triangle.cells x12) (iAV x12.e.X) rfl ag3 (.tmp rfl) rfl) rfl (lt_b rfl) ?_
          refine GoT.q rfl (QEx.fldP 2 rfl uT125 rfl ts24 rfl (.tmp rfl) rfl) rfl (lt_b rfl) ?_
          refine GoT.q rfl (QEx.fldP 2 rfl uT24 rfl ts3 rfl (.tmp rfl) rfl) rfl (lt_b rfl) ?_
          refine GoT.qr rfl rfl (QEx.ldP1 (polygon_triangle.cells x12) (iAV x12.f.X) rfl ag3 (.tmp rfl) rfl) rfl (lt_b rfl) ?_
          refine GoT.q rfl (QEx.addK rfl (.tmp rfl) (.tmp rfl)) rfl (lt_b rfl) ?_
          refine GoT.q rfl (QEx.fldP 4 rfl uT125 rfl ts3 rfl (.tmp rfl) rfl) rfl (lt_b rfl) ?_
          refine GoT.qr rfl rfl (QEx.ldP1 (polygon_triangle.cells x12) (iAV x12.cross) rfl ag3 (.tmp rfl) rfl) rfl (lt_b rfl) ?_
          refine GoT.q rfl (QEx.mulK rfl (.tmp rfl) (.tmp rfl)) rfl (lt_b rfl) ?_
          refine GoT.q rfl (QEx.addK rfl (.tmp rfl) (.tmp rfl)) rfl (lt_b rfl) ?_
          refine GoT.q rfl (QEx.eq (QEx.assign rfl (.tmp rfl)) (congrArg iAV hx13)) rfl (lt_b rfl) ?_
          refine GoT.nil ?_
          refine let_e h fun x14 hx14 h => ?_
          refine Wp.region ?_
          refine GoT.q rfl (QEx.move rfl (.tmp rfl)) rfl (lt_b rfl) ?_
          refine GoT.q rfl (QEx.fldP 0 rfl uT125 rfl ts24 rfl (.tmp rfl) rfl) rfl (lt_b rfl) ?_
          refine GoT.q rfl (QEx.fldP 1 rfl uT24 rfl ts3 rfl (.tmp rfl) rfl) rfl (lt_b rfl) ?_
          refine GoT.qr rfl rfl (QEx.ldP1 (polygon_triangle.cells x12) (iAV x12.e.Y) rfl ag3 (.tmp rfl) rfl) rfl (lt_b rfl) ?_
          refine GoT.q rfl (QEx.fldP 2 rfl uT125 rfl ts24 rfl (.tmp rfl) rfl) rfl (lt_b rfl) ?_
          refine GoT.q rfl (QEx.fldP 3 rfl uT24 rfl ts3 rfl (.tmp rfl) rfl) rfl (lt_b rfl) ?_
          refine GoT.qr rfl rfl (QEx.ldP1 (polygon_triangle.cells x12) (iAV x12.f.Y) rfl ag3 (.tmp rfl) rfl) rfl (lt_b rfl) ?_
          refine GoT.q rfl (QEx.addK rfl (.tmp rfl) (.tmp rfl)) rfl (lt_b rfl) ?_
          refine GoT.q rfl (QEx.fldP 4 rfl uT125 rfl ts3 rfl (.tmp rfl) rfl) rfl (lt_b rfl) ?_
          refine GoT.qr rfl rfl (QEx.ldP1 (polygon_triangle.cells x12) (iAV x12.cross) rfl ag3 (.tmp rfl) rfl) rfl (lt_b rfl) ?_
          refine GoT.q rfl (QEx.mulK rfl (.tmp rfl) (.tmp rfl)) rfl (lt_b rfl) ?_
          refine GoT.q rfl (QEx.addK rfl (.tmp rfl) (.tmp rfl)) rfl (lt_b rfl) ?_
          refine GoT.q rfl (QEx.eq (QEx.assign rfl (.tmp rfl)) (congrArg iAV hx14)) rfl (lt_b rfl) ?_
          refine GoT.nil ?_
          refine let_e h fun x15 hx15 h => ?_
          refine Wp.region ?_
          refine GoT.q rfl (QEx.addK rfl (.tmp rfl) .con) rfl (lt_b rfl) ?_
          refine GoT.q rfl (QEx.eq (QEx.move rfl (.tmp rfl)) (congrArg iAV hx15)) rfl (lt_b rfl) ?_
          refine GoT.nil ?_
          exact Round3.mk x13 x14 x15 [8] [] h (LS.to.mk (.b rfl rfl (.r rfl rfl (.b rfl rfl (.b rfl rfl (.b rfl rfl (.r rfl rfl (.b rfl rfl (.b rfl rfl .n)))))))) (.b rfl rfl rfl .n) rfl)
        · refine Wp.exit ?_
          exact Joined2.mk v8 v9 [15] [] h (LS.to.mk (.b rfl rfl (.r rfl rfl (.b rfl rfl (.b rfl rfl (.b rfl rfl .n))))) (.b rfl rfl rfl .n) rfl)
theorem vec2_product_ok {n_0 : Int} {r : Int} (h : vec2_product n_0 = some r) : FnR Tryz.prog 120 [(iAV n_0)] (iAV r) := by
  refine FnR.intro' (fn := Tryz.f120) (N := 6) Tryz.func120 rfl rfl (Nat.le_of_ble_eq_true rfl) [] ?_
  refine Wp.seq ?_
  refine Wp.region ?_
  refine GoT.q rfl (QEx.as (iAV 0) (QEx.assign rfl .con)) rfl (lt_b rfl) ?_
  refine GoT.nil ?_
  refine bind_e h fun r1 hr1 h => ?_
  refine let_e h fun r2 hr2 h => ?_
  refine Wp.seq ?_
  refine Wp.region ?_
  refine GoT.q rfl (QEx.move rfl (.tmp rfl)) rfl (lt_b rfl) ?_
  refine GoT.q rfl (QEx.cal0 (r := (iAV r1)) [(iAV n_0), (iAV 65536)] rfl Tryz.call118 (.cons (.tmp rfl) (.cons .con .nil)) (fixed_RoundDiv_ok hr1) rfl rfl) rfl (lt_b rfl) ?_
  refine GoT.q rfl (QEx.cal0 (r := (iAV r2)) [(iAV r1)] rfl Tryz.call117 (.cons (.tmp rfl) .nil) (fixed_Saturate_ok hr2) rfl rfl) rfl (lt_b rfl) ?_
  refine GoT.q rfl (QEx.assign rfl (.tmp rfl)) rfl (lt_b rfl) ?_
  refine GoT.nil ?_
  refine Wp.ret ?_
  cases h
  exact LeafQ.ret [] (by decide) (.cons (.tmp rfl) .nil) rfl
end GoForm
