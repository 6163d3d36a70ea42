/- The program's functions compute their plain forms: printed by gen2.py. No conditions. -/
import Derived.Test.YtblkmlpjhpgkjaaGreatF23UW4
set_option linter.all false
set_option maxRecDepth 100000
open Go Go.Cx Go.Proofs Go.RowKit
namespace GoForm
theorem ref23_EqualFixture_ok {a : Fixture} {b : Fixture} {r : Bool} (h : ref23_EqualFixture a b = some r) : FnR Tryz.prog 59 [(Fixture.av a), (Fixture.av b)] (boolAV r) := by
  refine FnR.intro' (fn := Tryz.f59) (N := 59) Tryz.func59 rfl rfl (Nat.le_of_ble_eq_true rfl) [2, 3] ?_
  refine Wp.seq ?_
  refine Wp.region ?_
  refine GoT.a rfl (AEx.bx (Z := (Fixture.cells a)) rfl (.tmp rfl) rfl rfl rfl rfl) rfl (lt_b rfl) ?_
  refine GoT.a rfl (AEx.bx (Z := (Fixture.cells b)) rfl (.tmp rfl) rfl rfl rfl rfl) rfl (lt_b rfl) ?_
  refine GoT.q rfl (QEx.as (boolAV false) (QEx.assign rfl .con)) rfl (lt_b rfl) ?_
  refine GoT.nil ?_
  refine bind_e h fun r1 hr1 h => ?_
  refine let_e h fun x2 hx2 h => ?_
  refine Wp.seq ?_
  refine Wp.region ?_
  refine GoT.q rfl (QEx.fldP 0 rfl Tryz.underlying35 rfl ts33 rfl (.tmp rfl) rfl) rfl (lt_b rfl) ?_
  refine GoT.qr rfl rfl (QEx.ldP (Fixture.cells a) (Shape.av a.Shape) rfl ag33 ts33 (.tmp rfl) (le_b rfl) rfl) rfl (lt_b rfl) ?_
  refine GoT.q rfl (QEx.fldP 0 rfl Tryz.underlying35 rfl ts33 rfl (.tmp rfl) rfl) rfl (lt_b rfl) ?_
  refine GoT.qr rfl rfl (QEx.ldP (Fixture.cells b) (Shape.av b.Shape) rfl ag33 ts33 (.tmp rfl) (le_b rfl) rfl) rfl (lt_b rfl) ?_
  refine GoT.q rfl (QEx.cal0 (r := (boolAV r1)) [(Shape.av a.Shape), (Shape.av b.Shape)] rfl Tryz.call116 (.cons (.tmp rfl) (.cons (.tmp rfl) .nil)) (ref12_Equal_ok hr1) rfl rfl) rfl (lt_b rfl) ?_
  refine GoT.q rfl (QEx.move rfl (.tmp rfl)) rfl (lt_b rfl) ?_
  refine GoT.g rfl rfl rfl (fun hg => QEx.fldP 3 rfl Tryz.underlying35 rfl ts3 rfl (.tmp rfl) rfl) rfl (lt_b rfl) ?_
  refine GoT.gr rfl rfl rfl rfl (fun hg => QEx.ldP1 (Fixture.cells a) (iAV a.Density) rfl ag3 (.opt (.tmp rfl) hg) rfl) rfl (lt_b rfl) ?_
  refine GoT.g rfl rfl rfl (fun hg => QEx.fldP 3 rfl Tryz.underlying35 rfl ts3 rfl (.tmp rfl) rfl) rfl (lt_b rfl) ?_
  refine GoT.gr rfl rfl rfl rfl (fun hg => QEx.ldP1 (Fixture.cells b) (iAV b.Density) rfl ag3 (.opt (.tmp rfl) hg) rfl) rfl (lt_b rfl) ?_
  refine GoT.g rfl rfl rfl (fun hg => QEx.eqlK rfl (.opt (.tmp rfl) hg) (.opt (.tmp rfl) hg)) rfl (lt_b rfl) ?_
  refine GoT.q rfl (QEx.pickK rfl (.tmp rfl) (fun hp => (.opt (.tmp rfl) (beq_t hp))) (fun hp => .con)) rfl (lt_b rfl) ?_
  refine GoT.q rfl (QEx.move rfl (.tmp rfl)) rfl (lt_b rfl) ?_
  refine GoT.g rfl rfl rfl (fun hg => QEx.fldP 4 rfl Tryz.underlying35 rfl ts3 rfl (.tmp rfl) rfl) rfl (lt_b rfl) ?_
  refine GoT.gr rfl rfl rfl rfl (fun hg => QEx.ldP1 (Fixture.cells a) (iAV a.Friction) rfl ag3 (.opt (.tmp rfl) hg) rfl) rfl (lt_b rfl) ?_
  refine GoT.g rfl rfl rfl (fun hg => QEx.fldP 4 rfl Tryz.underlying35 rfl ts3 rfl (.tmp rfl) rfl) rfl (lt_b rfl) ?_
  refine GoT.gr rfl rfl rfl rfl (fun hg => QEx.ldP1 (Fixture.cells b) (iAV b.Friction) rfl ag3 (.opt (.tmp rfl) hg) rfl) rfl (lt_b rfl) ?_
  refine GoT.g rfl rfl rfl (fun hg => QEx.eqlK rfl (.opt (.tmp rfl) hg) (.opt (.tmp rfl) hg)) rfl (lt_b rfl) ?_
  refine GoT.q rfl (QEx.pickK rfl (.tmp rfl) (fun hp => (.opt (.tmp rfl) (beq_t hp))) (fun hp => .con)) rfl (lt_b rfl) ?_
  refine GoT.q rfl (QEx.move rfl (.tmp rfl)) rfl (lt_b rfl) ?_
  refine GoT.g rfl rfl rfl (fun hg => QEx.fldP 5 rfl Tryz.underlying35 rfl ts3 rfl (.tmp rfl) rfl) rfl (lt_b rfl) ?_
  refine GoT.gr rfl rfl rfl rfl (fun hg => QEx.ldP1 (Fixture.cells a) (iAV a.Restitution) rfl ag3 (.opt (.tmp rfl) hg) rfl) rfl (lt_b rfl) ?_
  refine GoT.g rfl rfl rfl (fun hg => QEx.fldP 5 rfl Tryz.underlying35 rfl ts3 rfl (.tmp rfl) rfl) rfl (lt_b rfl) ?_
  refine GoT.gr rfl rfl rfl rfl (fun hg => QEx.ldP1 (Fixture.cells b) (iAV b.Restitution) rfl ag3 (.opt (.tmp rfl) hg) rfl) rfl (lt_b rfl) ?_
  refine GoT.g rfl rfl rfl (fun hg => QEx.eqlK rfl (.opt (.tmp rfl) hg) (.opt (.tmp rfl) hg)) rfl (lt_b rfl) ?_
  refine GoT.q rfl (QEx.pickK rfl (.tmp rfl) (fun hp => (.opt (.tmp rfl) (beq_t hp))) (fun hp => .con)) rfl (lt_b rfl) ?_
  refine GoT.q rfl (QEx.move rfl (.tmp rfl)) rfl (lt_b rfl) ?_
  refine GoT.g rfl rfl rfl (fun hg => QEx.fldP 6 rfl Tryz.underlying35 rfl ts4 rfl (.tmp rfl) rfl) rfl (lt_b rfl) ?_
  refine GoT.gr rfl rfl rfl rfl (fun hg => QEx.ldP1 (Fixture.cells a) (boolAV a.Sensor) rfl ag4 (.opt (.tmp rfl) hg) rfl) rfl (lt_b rfl) ?_
  refine GoT.g rfl rfl rfl (fun hg => QEx.fldP 6 rfl Tryz.underlying35 rfl ts4 rfl (.tmp rfl) rfl) rfl (lt_b rfl) ?_
  refine GoT.gr rfl rfl rfl rfl (fun hg => QEx.ldP1 (Fixture.cells b) (boolAV b.Sensor) rfl ag4 (.opt (.tmp rfl) hg) rfl) rfl (lt_b rfl) ?_
  refine GoT.g rfl rfl rfl (fun hg => QEx.eqlB rfl (.opt (.tmp rfl) hg) (.opt (.tmp rfl) hg) Tryz.underlying4) rfl (lt_b rfl) ?_
  refine GoT.q rfl (QEx.pickK rfl (.tmp rfl) (fun hp => (.opt (.tmp rfl) (beq_t hp))) (fun hp => .con)) rfl (lt_b rfl) ?_
  refine GoT.q rfl (QEx.move rfl (.tmp rfl)) rfl (lt_b rfl) ?_
  refine GoT.g rfl rfl rfl (fun hg => QEx.fldP 7 rfl Tryz.underlying35 rfl ts3 rfl (.tmp rfl) rfl) rfl (lt_b rfl) ?_
  refine GoT.gr rfl rfl rfl rfl (fun hg => QEx.ldP1 (Fixture.cells a) (iAV a.Category) rfl ag3 (.opt (.tmp rfl) hg) rfl) rfl (lt_b rfl) ?_
  refine GoT.g rfl rfl rfl (fun hg => QEx.fldP 7 rfl Tryz.underlying35 rfl ts3 rfl (.tmp rfl) rfl) rfl (lt_b rfl) ?_
  refine GoT.gr rfl rfl rfl rfl (fun hg => QEx.ldP1 (Fixture.cells b) (iAV b.Category) rfl ag3 (.opt (.tmp rfl) hg) rfl) rfl (lt_b rfl) ?_
  refine GoT.g rfl rfl rfl (fun hg => QEx.eqlK rfl (.opt (.tmp rfl) hg) (.opt (.tmp rfl) hg)) rfl (lt_b rfl) ?_
  refine GoT.q rfl (QEx.pickK rfl (.tmp rfl) (fun hp => (.opt (.tmp rfl) (beq_t hp))) (fun hp => .con)) rfl (lt_b rfl) ?_
  refine GoT.q rfl (QEx.move rfl (.tmp rfl)) rfl (lt_b rfl) ?_
  refine GoT.g rfl rfl rfl (fun hg => QEx.fldP 8 rfl Tryz.underlying35 rfl ts3 rfl (.tmp rfl) rfl) rfl (lt_b rfl) ?_
  refine GoT.gr rfl rfl rfl rfl (fun hg => QEx.ldP1 (Fixture.cells a) (iAV a.Mask) rfl ag3 (.opt (.tmp rfl) hg) rfl) rfl (lt_b rfl) ?_
  refine GoT.g rfl rfl rfl (fun hg => QEx.fldP 8 rfl Tryz.underlying35 rfl ts3 rfl (.tmp rfl) rfl) rfl (lt_b rfl) ?_
  refine GoT.gr rfl rfl rfl rfl (fun hg => QEx.ldP1 (Fixture.cells b) (iAV b.Mask) rfl ag3 (.opt (.tmp rfl) hg) rfl) rfl (lt_b rfl) ?_
  refine GoT.g rfl rfl rfl (fun hg => QEx.eqlK rfl (.opt (.tmp rfl) hg) (.opt (.tmp rfl) hg)) rfl (lt_b rfl) ?_
  refine GoT.q rfl (QEx.pickK rfl (.tmp rfl) (fun hp => (.opt (.tmp rfl) (beq_t hp))) (fun hp => .con)) rfl (lt_b rfl) ?_
  refine GoT.q rfl (QEx.move rfl (.tmp rfl)) rfl (lt_b rfl) ?_
  refine GoT.g rfl rfl rfl (fun hg => QEx.fldP 9 rfl Tryz.underlying35 rfl ts3 rfl (.tmp rfl) rfl) rfl (lt_b rfl) ?_
  refine GoT.gr rfl rfl rfl rfl (fun hg => QEx.ldP1 (Fixture.cells a) (iAV a.Group) rfl ag3 (.opt (.tmp rfl) hg) rfl) rfl (lt_b rfl) ?_
  refine GoT.g rfl rfl rfl (fun hg => QEx.fldP 9 rfl Tryz.underlying35 rfl ts3 rfl (.tmp rfl) rfl) rfl (lt_b rfl) ?_
  refine GoT.gr rfl rfl rfl rfl (fun hg => QEx.ldP1 (Fixture.cells b) (iAV b.Group) rfl ag3 (.opt (.tmp rfl) hg) rfl) rfl (lt_b rfl) ?_
  refine GoT.g rfl rfl rfl (fun hg => QEx.eqlK rfl (.opt (.tmp rfl) hg) (.opt (.tmp rfl) hg)) rfl (lt_b rfl) ?_
  refine GoT.q rfl (QEx.pickK rfl (.tmp rfl) (fun hp => (.opt (.tmp rfl) (beq_t hp))) (fun hp => .con)) rfl (lt_b rfl) ?_
  refine GoT.q rfl (QEx.eq (QEx.assign rfl (.tmp rfl)) (congrArg boolAV hx2)) rfl (lt_b rfl) ?_
  refine GoT.nil ?_
  refine Wp.ret ?_
  cases h
  exact LeafQ.ret [] (by decide) (.cons (.tmp rfl) .nil) rfl
theorem ref23_Equal_ok {a : Body} {b : Body} {r : Bool} (h : ref23_Equal a b = some r) : FnR Tryz.prog 24 [(Body.av a), (Body.av b)] (boolAV r) := by
  refine FnR.intro' (fn := Tryz.f24) (N := 140) Tryz.func24 rfl rfl (Nat.le_of_ble_eq_true rfl) [2, 3] ?_
  refine Wp.seq ?_
  refine Wp.region ?_
  refine GoT.a rfl (AEx.bx (Z := (Body.cells a)) rfl (.tmp rfl) rfl rfl rfl rfl) rfl (lt_b rfl) ?_
  refine GoT.a rfl (AEx.bx (Z := (Body.cells b)) rfl (.tmp rfl) rfl rfl rfl rfl) rfl (lt_b rfl) ?_
  refine GoT.q rfl (QEx.as (boolAV false) (QEx.assign rfl .con)) rfl (lt_b rfl) ?_
  refine GoT.nil ?_
  refine Wp.seq ?_
  refine Wp.seq ?_
  refine Wp.region ?_
  refine GoT.q rfl (QEx.fldP 19 rfl Tryz.underlying29 rfl ts27 rfl (.tmp rfl) rfl) rfl (lt_b rfl) ?_
  refine GoT.qr rfl rfl (QEx.ldP1 (Body.cells a) ((slAV 10 Fixture.av) a.Fixtures) rfl ag27 (.tmp rfl) rfl) rfl (lt_b rfl) ?_
  refine GoT.q rfl (QEx.lenL rfl ⟨_, Tryz.underlying27⟩ (.tmp rfl)) rfl (lt_b rfl) ?_
  refine GoT.q rfl (QEx.fldP 19 rfl Tryz.underlying29 rfl ts27 rfl (.tmp rfl) rfl) rfl (lt_b rfl) ?_
  refine GoT.qr rfl rfl (QEx.ldP1 (Body.cells b) ((slAV 10 Fixture.av) b.Fixtures) rfl ag27 (.tmp rfl) rfl) rfl (lt_b rfl) ?_
  refine GoT.q rfl (QEx.lenL rfl ⟨_, Tryz.underlying27⟩ (.tmp rfl)) rfl (lt_b rfl) ?_
  refine GoT.q rfl (QEx.neqK rfl (.tmp rfl) (.tmp rfl)) rfl (lt_b rfl) ?_
  refine GoT.nil ?_
  refine Wp.condS h rfl (fun h => ?_) (fun h => ?_)
  · refine Wp.seq ?_
    refine Wp.region ?_
    refine GoT.q rfl (QEx.as (boolAV false) (QEx.assign rfl .con)) rfl (lt_b rfl) ?_
    refine GoT.nil ?_
    refine Wp.ret ?_
    cases h
    exact LeafQ.ret [] (by decide) (.cons (.tmp rfl) .nil) rfl
  · refine Wp.skip ?_
    refine Wp.join0 (⟨[(2, (.ptr 2 0)), (3, (.ptr 3 0))], [(2, .cells (Body.cells a)), (3, .cells (Body.cells b))], []⟩) ((ref23_Equal_j2 a b) = some r) ?_ ?_
    · intro h
      refine Wp.seq ?_
      refine Wp.seq ?_
      refine Wp.region ?_
      refine GoT.q rfl (QEx.fldP 0 rfl Tryz.underlying29 rfl ts3 rfl (.tmp rfl) rfl) rfl (lt_b rfl) ?_
      refine GoT.qr rfl rfl (QEx.ldP1 (Body.cells a) (iAV a.ID) rfl ag3 (.tmp rfl) rfl) rfl (lt_b rfl) ?_
      refine GoT.q rfl (QEx.fldP 0 rfl Tryz.underlying29 rfl ts3 rfl (.tmp rfl) rfl) rfl (lt_b rfl) ?_
      refine GoT.qr rfl rfl (QEx.ldP1 (Body.cells b) (iAV b.ID) rfl ag3 (.tmp rfl) rfl) rfl (lt_b rfl) ?_
      refine GoT.q rfl (QEx.neqK rfl (.tmp rfl) (.tmp rfl)) rfl (lt_b rfl) ?_
      refine GoT.q rfl (QEx.move rfl (.tmp rfl)) rfl (lt_b rfl) ?_
      refine GoT.g rfl rfl rfl (fun hg => QEx.fldP 1 rfl Tryz.underlying29 rfl ts22 rfl (.tmp rfl) rfl) rfl (lt_b rfl) ?_
      refine GoT.gr rfl rfl rfl rfl (fun hg => QEx.ldP1 (Body.cells a) (iAV a.Kind) rfl ag22 (.opt (.tmp rfl) hg) rfl) rfl (lt_b rfl) ?_
      refine GoT.g rfl rfl rfl (fun hg => QEx.fldP 1 rfl Tryz.underlying29 rfl ts22 rfl (.tmp rfl) rfl) rfl (lt_b rfl) ?_
      refine GoT.gr rfl rfl rfl rfl (fun hg => QEx.ldP1 (Body.cells b) (iAV b.Kind) rfl ag22 (.opt (.tmp rfl) hg) rfl) rfl (lt_b rfl) ?_
      refine GoT.g rfl rfl rfl (fun hg => QEx.neqK rfl (.opt (.tmp rfl) hg) (.opt (.tmp rfl) hg)) rfl (lt_b rfl) ?_
      refine GoT.q rfl (QEx.pickK rfl (.tmp rfl) (fun hp => .con) (fun hp => (.opt (.tmp rfl) (beq_f hp)))) rfl (lt_b rfl) ?_
      refine GoT.q rfl (QEx.move rfl (.tmp rfl)) rfl (lt_b rfl) ?_
      refine GoT.g rfl rfl rfl (fun hg => QEx.fldP 2 rfl Tryz.underlying29 rfl ts26 rfl (.tmp rfl) rfl) rfl (lt_b rfl) ?_
      refine GoT.gr rfl rfl rfl rfl (fun hg => QEx.ldP (Body.cells a) (Transform.av a.Transform) rfl ag26 ts26 (.opt (.tmp rfl) hg) (le_b rfl) rfl) rfl (lt_b rfl) ?_
      refine GoT.g rfl rfl rfl (fun hg => QEx.fldP 2 rfl Tryz.underlying29 rfl ts26 rfl (.tmp rfl) rfl) rfl (lt_b rfl) ?_
      refine GoT.gr rfl rfl rfl rfl (fun hg => QEx.ldP (Body.cells b) (Transform.av b.Transform) rfl ag26 ts26 (.opt (.tmp rfl) hg) (le_b rfl) rfl) rfl (lt_b rfl) ?_
      refine GoT.g rfl rfl rfl (fun hg => QEx.neqA rfl eq26 (.opt (.tmp rfl) hg) (.opt (.tmp rfl) hg)) rfl (lt_b rfl) ?_
      refine GoT.q rfl (QEx.pickK rfl (.tmp rfl) (fun hp => .con) (fun hp => (.opt (.tmp rfl) (beq_f hp)))) rfl (lt_b rfl) ?_
      refine GoT.q rfl (QEx.move rfl (.tmp rfl)) rfl (lt_b rfl) ?_
      refine GoT.g rfl rfl rfl (fun hg => QEx.fldP 5 rfl Tryz.underlying29 rfl ts24 rfl (.tmp rfl) rfl) rfl (lt_b rfl) ?_
      refine GoT.gr rfl rfl rfl rfl (fun hg => QEx.ldP (Body.cells a) (Vec.av a.Velocity) rfl ag24 ts24 (.opt (.tmp rfl) hg) (le_b rfl) rfl) rfl (lt_b rfl) ?_
      refine GoT.g rfl rfl rfl (fun hg => QEx.fldP 5 rfl Tryz.underlying29 rfl ts24 rfl (.tmp rfl) rfl) rfl (lt_b rfl) ?_
      refine GoT.gr rfl rfl rfl rfl (fun hg => QEx.ldP (Body.cells b) (Vec.av b.Velocity) rfl ag24 ts24 (.opt (.tmp rfl) hg) (le_b rfl) rfl) rfl (lt_b rfl) ?_
      refine GoT.g rfl rfl rfl (fun hg => QEx.neqA rfl eq24 (.opt (.tmp rfl) hg) (.opt (.tmp rfl) hg)) rfl (lt_b rfl) ?_
      refine GoT.q rfl (QEx.pickK rfl (.tmp rfl) (fun hp => .con) (fun hp => (.opt (.tmp rfl) (beq_f hp)))) rfl (lt_b rfl) ?_
      refine GoT.q rfl (QEx.move rfl (.tmp rfl)) rfl (lt_b rfl) ?_
      refine GoT.g rfl rfl rfl (fun hg => QEx.fldP 7 rfl Tryz.underlying29 rfl ts3 rfl (.tmp rfl) rfl) rfl (lt_b rfl) ?_
      refine GoT.gr rfl rfl rfl rfl (fun hg => QEx.ldP1 (Body.cells a) (iAV a.AngularVelocity) rfl ag3 (.opt (.tmp rfl) hg) rfl) rfl (lt_b rfl) ?_
      refine GoT.g rfl rfl rfl (fun hg => QEx.fldP 7 rfl Tryz.underlying29 rfl ts3 rfl (.tmp rfl) rfl) rfl (lt_b rfl) ?_
      refine GoT.gr rfl rfl rfl rfl (fun hg => QEx.ldP1 (Body.cells b) (iAV b.AngularVelocity) rfl ag3 (.opt (.tmp rfl) hg) rfl) rfl (lt_b rfl) ?_
      refine GoT.g rfl rfl rfl (fun hg => QEx.neqK rfl (.opt (.tmp rfl) hg) (.opt (.tmp rfl) hg)) rfl (lt_b rfl) ?_
      refine GoT.q rfl (QEx.pickK rfl (.tmp rfl) (fun hp => .con) (fun hp => (.opt (.tmp rfl) (beq_f hp)))) rfl (lt_b rfl) ?_
      refine GoT.q rfl (QEx.move rfl (.tmp rfl)) rfl (lt_b rfl) ?_
      refine GoT.g rfl rfl rfl (fun hg => QEx.fldP 8 rfl Tryz.underlying29 rfl ts24 rfl (.tmp rfl) rfl) rfl (lt_b rfl) ?_
      refine GoT.gr rfl rfl rfl rfl (fun hg => QEx.ldP (Body.cells a) (Vec.av a.Force) rfl ag24 ts24 (.opt (.tmp rfl) hg) (le_b rfl) rfl) rfl (lt_b rfl) ?_
      refine GoT.g rfl rfl rfl (fun hg => QEx.fldP 8 rfl Tryz.underlying29 rfl ts24 rfl (.tmp rfl) rfl) rfl (lt_b rfl) ?_
      refine GoT.gr rfl rfl rfl rfl (fun hg => QEx.ldP (Body.cells b) (Vec.av b.Force) rfl ag24 ts24 (.opt (.tmp rfl) hg) (le_b rfl) rfl) rfl (lt_b rfl) ?_
      refine GoT.g rfl rfl rfl (fun hg => QEx.neqA rfl eq24 (.opt (.tmp rfl) hg) (.opt (.tmp rfl) hg)) rfl (lt_b rfl) ?_
      refine GoT.q rfl (QEx.pickK rfl (.tmp rfl) (fun hp => .con) (fun hp => (.opt (.tmp rfl) (beq_f hp)))) rfl (lt_b rfl) ?_
      refine GoT.q rfl (QEx.move rfl (.tmp rfl)) rfl (lt_b rfl) ?_
      refine GoT.g rfl rfl rfl (fun hg => QEx.fldP 10 rfl Tryz.underlying29 rfl ts3 rfl (.tmp rfl) rfl) rfl (lt_b rfl) ?_
      refine GoT.gr rfl rfl rfl rfl (fun hg => QEx.ldP1 (Body.cells a) (iAV a.Torque) rfl ag3 (.opt (.tmp rfl) hg) rfl) rfl (lt_b rfl) ?_
      refine GoT.g rfl rfl rfl (fun hg => QEx.fldP 10 rfl Tryz.underlying29 rfl ts3 rfl (.tmp rfl) rfl) rfl (lt_b rfl) ?_
      refine GoT.gr rfl rfl rfl rfl (fun hg => QEx.ldP1 (Body.cells b) (iAV b.Torque) rfl ag3 (.opt (.tmp rfl) hg) rfl) rfl (lt_b rfl) ?_
      refine GoT.g rfl rfl rfl (fun hg => QEx.neqK rfl (.opt (.tmp rfl) hg) (.opt (.tmp rfl) hg)) rfl (lt_b rfl) ?_
      refine GoT.q rfl (QEx.pickK rfl (.tmp rfl) (fun hp => .con) (fun hp => (.opt (.tmp rfl) (beq_f hp)))) rfl (lt_b rfl) ?_
      refine GoT.nil ?_
      refine Wp.condS h rfl (fun h => ?_) (fun h => ?_)
      · refine Wp.seq ?_
        refine Wp.region ?_
        refine GoT.q rfl (QEx.as (boolAV false) (QEx.assign rfl .con)) rfl (lt_b rfl) ?_
        refine GoT.nil ?_
        refine Wp.ret ?_
        cases h
        exact LeafQ.ret [] (by decide) (.cons (.tmp rfl) .nil) rfl
      · refine Wp.skip ?_
        refine let_e h fun x6 hx6 h => ?_
        refine Wp.seq ?_
        refine Wp.region ?_
        refine GoT.q rfl (QEx.fldP 11 rfl Tryz.underlying29 rfl ts3 rfl (.tmp rfl) rfl) rfl (lt_b rfl) ?_
        refine GoT.qr rfl rfl (QEx.ldP1 (Body.cells a) (iAV a.LinearDamping) rfl ag3 (.tmp rfl) rfl) rfl (lt_b rfl) ?_
        refine GoT.q rfl (QEx.fldP 11 rfl Tryz.underlying29 rfl ts3 rfl (.tmp rfl) rfl) rfl (lt_b rfl) ?_
        refine GoT.qr rfl rfl (QEx.ldP1 (Body.cells b) (iAV b.LinearDamping) rfl ag3 (.tmp rfl) rfl) rfl (lt_b rfl) ?_
        refine GoT.q rfl (QEx.eqlK rfl (.tmp rfl) (.tmp rfl)) rfl (lt_b rfl) ?_
        refine GoT.q rfl (QEx.move rfl (.tmp rfl)) rfl (lt_b rfl) ?_
        refine GoT.g rfl rfl rfl (fun hg => QEx.fldP 12 rfl Tryz.underlying29 rfl ts3 rfl (.tmp rfl) rfl) rfl (lt_b rfl) ?_
        refine GoT.gr rfl rfl rfl rfl (fun hg => QEx.ldP1 (Body.cells a) (iAV a.AngularDamping) rfl ag3 (.opt (.tmp rfl) hg) rfl) rfl (lt_b rfl) ?_
        refine GoT.g rfl rfl rfl (fun hg => QEx.fldP 12 rfl Tryz.underlying29 rfl ts3 rfl (.tmp rfl) rfl) rfl (lt_b rfl) ?_
        refine GoT.gr rfl rfl rfl rfl (fun hg => QEx.ldP1 (Body.cells b) (iAV b.AngularDamping) rfl ag3 (.opt (.tmp rfl) hg) rfl) rfl (lt_b rfl) ?_
        refine GoT.g rfl rfl rfl (fun hg => QEx.eqlK rfl (.opt (.tmp rfl) hg) (.opt (.tmp rfl) hg)) rfl (lt_b rfl) ?_
        refine GoT.q rfl (QEx.pickK rfl (.tmp rfl) (fun hp => (.opt (.tmp rfl) (beq_t hp))) (fun hp => .con)) rfl (lt_b rfl) ?_
        refine GoT.q rfl (QEx.move rfl (.tmp rfl)) rfl (lt_b rfl) ?_
        refine GoT.g rfl rfl rfl (fun hg => QEx.fldP 13 rfl Tryz.underlying29 rfl ts3 rfl (.tmp rfl) rfl) rfl (lt_b rfl) ?_
        refine GoT.gr rfl rfl rfl rfl (fun hg => QEx.ldP1 (Body.cells a) (iAV a.GravityScale) rfl ag3 (.opt (.tmp rfl) hg) rfl) rfl (lt_b rfl) ?_
        refine GoT.g rfl rfl rfl (fun hg => QEx.fldP 13 rfl Tryz.underlying29 rfl ts3 rfl (.tmp rfl) rfl) rfl (lt_b rfl) ?_
        refine GoT.gr rfl rfl rfl rfl (fun hg => QEx.ldP1 (Body.cells b) (iAV b.GravityScale) rfl ag3 (.opt (.tmp rfl) hg) rfl) rfl (lt_b rfl) ?_
        refine GoT.g rfl rfl rfl (fun hg => QEx.eqlK rfl (.opt (.tmp rfl) hg) (.opt (.tmp rfl) hg)) rfl (lt_b rfl) ?_
        refine GoT.q rfl (QEx.pickK rfl (.tmp rfl) (fun hp => (.opt (.tmp rfl) (beq_t hp))) (fun hp => .con)) rfl (lt_b rfl) ?_
        refine GoT.q rfl (QEx.move rfl (.tmp rfl)) rfl (lt_b rfl) ?_
        refine GoT.g rfl rfl rfl (fun hg => QEx.fldP 14 rfl Tryz.underlying29 rfl ts4 rfl (.tmp rfl) rfl) rfl (lt_b rfl) ?_
        refine GoT.gr rfl rfl rfl rfl (fun hg => QEx.ldP1 (Body.cells a) (boolAV a.Bullet) rfl ag4 (.opt (.tmp rfl) hg) rfl) rfl (lt_b rfl) ?_
        refine GoT.g rfl rfl rfl (fun hg => QEx.fldP 14 rfl Tryz.underlying29 rfl ts4 rfl (.tmp rfl) rfl) rfl (lt_b rfl) ?_
        refine GoT.gr rfl rfl rfl rfl (fun hg => QEx.ldP1 (Body.cells b) (boolAV b.Bullet) rfl ag4 (.opt (.tmp rfl) hg) rfl) rfl (lt_b rfl) ?_
        refine GoT.g rfl rfl rfl (fun hg => QEx.eqlB rfl (.opt (.tmp rfl) hg) (.opt (.tmp rfl) hg) Tryz.underlying4) rfl (lt_b rfl) ?_
        refine GoT.q rfl (QEx.pickK rfl (.tmp rfl) (fun hp => (.opt (.tmp rfl) (beq_t hp))) (fun hp => .con)) rfl (lt_b rfl) ?_
        refine GoT.q rfl (QEx.move rfl (.tmp rfl)) rfl (lt_b rfl) ?_
        refine GoT.g rfl rfl rfl (fun hg => QEx.fldP 15 rfl Tryz.underlying29 rfl ts4 rfl (.tmp rfl) rfl) rfl (lt_b rfl) ?_
        refine GoT.gr rfl rfl rfl rfl (fun hg => QEx.ldP1 (Body.cells a) (boolAV a.FixedRotation) rfl ag4 (.opt (.tmp rfl) hg) rfl) rfl (lt_b rfl) ?_
        refine GoT.g rfl rfl rfl (fun hg => QEx.fldP 15 rfl Tryz.underlying29 rfl ts4 rfl (.tmp rfl) rfl) rfl (lt_b rfl) ?_
        refine GoT.gr rfl rfl rfl rfl (fun hg => QEx.ldP1 (Body.cells b) (boolAV b.FixedRotation) rfl ag4 (.opt (.tmp rfl) hg) rfl) rfl (lt_b rfl) ?_
        refine GoT.g rfl rfl rfl (fun hg => QEx.eqlB rfl (.opt (.tmp rfl) hg) (.opt (.tmp rfl) hg) Tryz.underlying4) rfl (lt_b rfl) ?_
        refine GoT.q rfl (QEx.pickK rfl (.tmp rfl) (fun hp => (.opt (.tmp rfl) (beq_t hp))) (fun hp => .con)) rfl (lt_b rfl) ?_
        refine GoT.q rfl (QEx.move rfl (.tmp rfl)) rfl (lt_b rfl) ?_
        refine GoT.g rfl rfl rfl (fun hg => QEx.fldP 16 rfl Tryz.underlying29 rfl ts4 rfl (.tmp rfl) rfl) rfl (lt_b rfl) ?_
        refine GoT.gr rfl rfl rfl rfl (fun hg => QEx.ldP1 (Body.cells a) (boolAV a.NoSleep) rfl ag4 (.opt (.tmp rfl) hg) rfl) rfl (lt_b rfl) ?_
        refine GoT.g rfl rfl rfl (fun hg => QEx.fldP 16 rfl Tryz.underlying29 rfl ts4 rfl (.tmp rfl) rfl) rfl (lt_b rfl) ?_
        refine GoT.gr rfl rfl rfl rfl (fun hg => QEx.ldP1 (Body.cells b) (boolAV b.NoSleep) rfl ag4 (.opt (.tmp rfl) hg) rfl) rfl (lt_b rfl) ?_
        refine GoT.g rfl rfl rfl (fun hg => QEx.eqlB rfl (.opt (.tmp rfl) hg) (.opt (.tmp rfl) hg) Tryz.underlying4) rfl (lt_b rfl) ?_
        refine GoT.q rfl (QEx.pickK rfl (.tmp rfl) (fun hp => (.opt (.tmp rfl) (beq_t hp))) (fun hp => .con)) rfl (lt_b rfl) ?_
        refine GoT.q rfl (QEx.move rfl (.tmp rfl)) rfl (lt_b rfl) ?_
        refine GoT.g rfl rfl rfl (fun hg => QEx.fldP 17 rfl Tryz.underlying29 rfl ts4 rfl (.tmp rfl) rfl) rfl (lt_b rfl) ?_
        refine GoT.gr rfl rfl rfl rfl (fun hg => QEx.ldP1 (Body.cells a) (boolAV a.Asleep) rfl ag4 (.opt (.tmp rfl) hg) rfl) rfl (lt_b rfl) ?_
        refine GoT.g rfl rfl rfl (fun hg => QEx.fldP 17 rfl Tryz.underlying29 rfl ts4 rfl (.tmp rfl) rfl) rfl (lt_b rfl) ?_
        refine GoT.gr rfl rfl rfl rfl (fun hg => QEx.ldP1 (Body.cells b) (boolAV b.Asleep) rfl ag4 (.opt (.tmp rfl) hg) rfl) rfl (lt_b rfl) ?_
        refine GoT.g rfl rfl rfl (fun hg => QEx.eqlB rfl (.opt (.tmp rfl) hg) (.opt (.tmp rfl) hg) Tryz.underlying4) rfl (lt_b rfl) ?_
        refine GoT.q rfl (QEx.pickK rfl (.tmp rfl) (fun hp => (.opt (.tmp rfl) (beq_t hp))) (fun hp => .con)) rfl (lt_b rfl) ?_
        refine GoT.q rfl (QEx.move rfl (.tmp rfl)) rfl (lt_b rfl) ?_
        refine GoT.g rfl rfl rfl (fun hg => QEx.fldP 18 rfl Tryz.underlying29 rfl ts3 rfl (.tmp rfl) rfl) rfl (lt_b rfl) ?_
        refine GoT.gr rfl rfl rfl rfl (fun hg => QEx.ldP1 (Body.cells a) (iAV a.IdleSteps) rfl ag3 (.opt (.tmp rfl) hg) rfl) rfl (lt_b rfl) ?_
        refine GoT.g rfl rfl rfl (fun hg => QEx.fldP 18 rfl Tryz.underlying29 rfl ts3 rfl (.tmp rfl) rfl) rfl (lt_b rfl) ?_
        refine GoT.gr rfl rfl rfl rfl (fun hg => QEx.ldP1 (Body.cells b) (iAV b.IdleSteps) rfl ag3 (.opt (.tmp rfl) hg) rfl) rfl (lt_b rfl) ?_
        refine GoT.g rfl rfl rfl (fun hg => QEx.eqlK rfl (.opt (.tmp rfl) hg) (.opt (.tmp rfl) hg)) rfl (lt_b rfl) ?_
        refine GoT.q rfl (QEx.pickK rfl (.tmp rfl) (fun hp => (.opt (.tmp rfl) (beq_t hp))) (fun hp => .con)) rfl (lt_b rfl) ?_
        refine GoT.q rfl (QEx.eq (QEx.assign rfl (.tmp rfl)) (congrArg boolAV hx6)) rfl (lt_b rfl) ?_
        refine GoT.nil ?_
        refine Wp.ret ?_
        cases h
        exact LeafQ.ret [] (by decide) (.cons (.tmp rfl) .nil) rfl
    · refine Wp.seq ?_
      refine Wp.region ?_
      refine GoT.q rfl (QEx.as (iAV 0) (QEx.assign rfl .con)) rfl (lt_b rfl) ?_
      refine GoT.nil ?_
      refine Wp.block ?_
      refine Wp.loop1 (fun v1 => ⟨[(2, (.ptr 2 0)), (3, (.ptr 3 0)), (5, (iAV v1))], [(2, .cells (Body.cells a)), (3, .cells (Body.cells b))], []⟩) (fun n v1 => ref23_Equal_l1 a b (ref23_Equal_j2 a b) n v1 = some r) fuel 0 [] [] h (LS.to.mk (.r rfl rfl (.r rfl rfl (.b rfl rfl .n))) (.b rfl rfl rfl (.b rfl rfl rfl .n)) rfl) ?_
      rintro (_ | n2) v1 h
      · exact none_e h
      rw [ref23_Equal_l1] at h
      refine Wp.seq ?_
      refine Wp.seq ?_
      refine Wp.region ?_
      refine GoT.q rfl (QEx.move rfl (.tmp rfl)) rfl (lt_b rfl) ?_
      refine GoT.q rfl (QEx.fldP 19 rfl Tryz.underlying29 rfl ts27 rfl (.tmp rfl) rfl) rfl (lt_b rfl) ?_
      refine GoT.qr rfl rfl (QEx.ldP1 (Body.cells a) ((slAV 10 Fixture.av) a.Fixtures) rfl ag27 (.tmp rfl) rfl) rfl (lt_b rfl) ?_
      refine GoT.q rfl (QEx.lenL rfl ⟨_, Tryz.underlying27⟩ (.tmp rfl)) rfl (lt_b rfl) ?_
      refine GoT.q rfl (QEx.lssK rfl (.tmp rfl) (.tmp rfl)) rfl (lt_b rfl) ?_
      refine GoT.q rfl (QEx.move rfl (.tmp rfl)) rfl (lt_b rfl) ?_
      refine GoT.g rfl rfl rfl (fun hg => QEx.move rfl (.tmp rfl)) rfl (lt_b rfl) ?_
      refine GoT.g rfl rfl rfl (fun hg => QEx.fldP 19 rfl Tryz.underlying29 rfl ts27 rfl (.tmp rfl) rfl) rfl (lt_b rfl) ?_
      refine GoT.gr rfl rfl rfl rfl (fun hg => QEx.ldP1 (Body.cells b) ((slAV 10 Fixture.av) b.Fixtures) rfl ag27 (.opt (.tmp rfl) hg) rfl) rfl (lt_b rfl) ?_
      refine GoT.g rfl rfl rfl (fun hg => QEx.lenL rfl ⟨_, Tryz.underlying27⟩ (.opt (.tmp rfl) hg)) rfl (lt_b rfl) ?_
      refine GoT.g rfl rfl rfl (fun hg => QEx.lssK rfl (.opt (.tmp rfl) hg) (.opt (.tmp rfl) hg)) rfl (lt_b rfl) ?_
      refine GoT.q rfl (QEx.pickK rfl (.tmp rfl) (fun hp => (.opt (.tmp rfl) (beq_t hp))) (fun hp => .con)) rfl (lt_b rfl) ?_
      refine GoT.nil ?_
      refine Wp.condS h rfl (fun h => ?_) (fun h => ?_)
      · refine Wp.skip ?_
        refine Wp.seq ?_
        refine Wp.block ?_
        refine chk_e h fun c2 h => ?_
        refine chk_e h fun c3 h => ?_
        refine bind_e h fun r4 hr4 h => ?_
        refine Wp.seq ?_
        refine Wp.drawn2 (n0 := 12) [] mixed ?_
        refine GoD.q rfl (QEx.fldP 19 rfl Tryz.underlying29 rfl ts27 rfl (.tmp rfl) rfl) rfl (lt_b rfl) ?_
        refine GoD.qr rfl rfl (QEx.ldP1 (Body.cells a) ((slAV 10 Fixture.av) a.Fixtures) rfl ag27 (.tmp rfl) rfl) rfl (lt_b rfl) ?_
        refine GoD.q rfl (QEx.move rfl (.tmp rfl)) rfl (lt_b rfl) ?_
        refine GoD.q rfl (QEx.as (.cptr (Fixture.cells (ix a.Fixtures v1))) (QEx.idxL (E := Fixture.av) rfl et27 (.tmp rfl) (.tmp rfl) c2)) rfl (lt_b rfl) ?_
        refine GoD.q rfl (QEx.ldC (x := (Fixture.av (ix a.Fixtures v1))) rfl ag35 ts35 (.tmp rfl) (.inl ⟨rfl, rfl, rfl⟩)) rfl (lt_b rfl) ?_
        refine GoD.q rfl (QEx.fldP 19 rfl Tryz.underlying29 rfl ts27 rfl (.tmp rfl) rfl) rfl (lt_b rfl) ?_
        refine GoD.qr rfl rfl (QEx.ldP1 (Body.cells b) ((slAV 10 Fixture.av) b.Fixtures) rfl ag27 (.tmp rfl) rfl) rfl (lt_b rfl) ?_
        refine GoD.q rfl (QEx.move rfl (.tmp rfl)) rfl (lt_b rfl) ?_
        refine GoD.q rfl (QEx.as (.cptr (Fixture.cells (ix b.Fixtures v1))) (QEx.idxL (E := Fixture.av) rfl et27 (.tmp rfl) (.tmp rfl) c3)) rfl (lt_b rfl) ?_
        refine GoD.q rfl (QEx.ldC (x := (Fixture.av (ix b.Fixtures v1))) rfl ag35 ts35 (.tmp rfl) (.inl ⟨rfl, rfl, rfl⟩)) rfl (lt_b rfl) ?_
        refine GoD.q rfl (QEx.cal0 (r := (boolAV r4)) [(Fixture.av (ix a.Fixtures v1)), (Fixture.av (ix b.Fixtures v1))] rfl Tryz.call59 (.cons (.tmp rfl) (.cons (.tmp rfl) .nil)) (ref23_EqualFixture_ok hr4) rfl rfl) rfl (lt_b rfl) ?_
        refine GoD.q rfl (QEx.notK rfl (.tmp rfl)) rfl (lt_b rfl) ?_
        refine GoD.nil ⟨by kernel_rfl, by kernel_rfl, by kernel_rfl, by kernel_rfl, by kernel_rfl, ?_⟩
        refine GoT.nil ?_
        refine Wp.condS h rfl (fun h => ?_) (fun h => ?_)
        · refine Wp.seq ?_
          refine Wp.region ?_
          refine GoT.q rfl (QEx.as (boolAV false) (QEx.assign rfl .con)) rfl (lt_b rfl) ?_
          refine GoT.nil ?_
          refine Wp.ret ?_
          cases h
          exact LeafQ.ret [] (by decide) (.cons (.tmp rfl) .nil) rfl
        · refine Wp.skip ?_
          refine let_e h fun x5 hx5 h => ?_
          refine Wp.region ?_
          refine GoT.q rfl (QEx.move rfl (.tmp rfl)) rfl (lt_b rfl) ?_
          refine GoT.q rfl (QEx.addK rfl (.tmp rfl) .con) rfl (lt_b rfl) ?_
          refine GoT.q rfl (QEx.eq (QEx.assign rfl (.tmp rfl)) (congrArg iAV hx5)) rfl (lt_b rfl) ?_
          refine GoT.nil ?_
          exact Round1.mk x5 [] [] h (LS.to.mk (.r rfl rfl (.r rfl rfl (.b rfl rfl .n))) (.b rfl rfl rfl (.b rfl rfl rfl .n)) rfl)
      · refine Wp.exit ?_
        exact Joined0.mk [] [] h (LS.to.mk (.r rfl rfl (.r rfl rfl .n)) (.b rfl rfl rfl (.b rfl rfl rfl .n)) rfl)
theorem body_ApplyAngularImpulse_ok {b : Body} {impulse : Int} {r : Body} (h : body_ApplyAngularImpulse b impulse = some r) : FnR Tryz.prog 27 [(Body.av b), (iAV impulse)] (Body.av r) := by
  refine FnR.intro' (fn := Tryz.f27) (N := 20) Tryz.func27 rfl rfl (Nat.le_of_ble_eq_true rfl) [2, 4] ?_
  refine Wp.seq ?_
  refine Wp.region ?_
  refine GoT.a rfl (AEx.bx (Z := (Body.cells b)) rfl (.tmp rfl) rfl rfl rfl rfl) rfl (lt_b rfl) ?_
  refine GoT.a rfl (AEx.alZ rfl zt29 rfl rfl) rfl (lt_b rfl) ?_
  refine GoT.nil ?_
  refine Wp.seq ?_
  refine Wp.seq ?_
  refine Wp.region ?_
  refine GoT.q rfl (QEx.fldP 1 rfl Tryz.underlying29 rfl ts22 rfl (.tmp rfl) rfl) rfl (lt_b rfl) ?_
  refine GoT.qr rfl rfl (QEx.ldP1 (Body.cells b) (iAV b.Kind) rfl ag22 (.tmp rfl) rfl) rfl (lt_b rfl) ?_
  refine GoT.q rfl (QEx.neqK rfl (.tmp rfl) .con) rfl (lt_b rfl) ?_
  refine GoT.nil ?_
  refine Wp.condS h rfl (fun h => ?_) (fun h => ?_)
  · refine let_e h fun x1 hx1 h => ?_
    refine Wp.seq ?_
    refine Wp.region ?_
    refine GoT.qr rfl rfl (QEx.ldP (Body.cells b) (Body.av b) rfl ag29 ts29 (.tmp rfl) (le_b rfl) rfl) rfl (lt_b rfl) ?_
    refine GoT.s rfl (AEx.sto (Z := (Body.cells x1)) rfl rfl ts29 (.tmp rfl) rfl (.tmp rfl) rfl rfl (le_b rfl) (congrArg (fun (x : Body) => (Body.cells x)) hx1)) rfl ?_
    refine GoT.nil ?_
    refine Wp.ret ?_
    cases h
    exact LeafQ.ret [] (by decide) (.cons (.agg rfl rfl ag29 ts29) .nil) rfl
  · refine Wp.skip ?_
    refine bind_e h fun r2 hr2 h => ?_
    refine bind_e h fun r3 hr3 h => ?_
    refine let_e h fun r4 hr4 h => ?_
    refine let_e h fun x5 hx5 h => ?_
    refine Wp.seq ?_
    refine Wp.drawn2 (n0 := 10) [] mixed ?_
    refine GoD.q rfl (QEx.fldP 7 rfl Tryz.underlying29 rfl ts3 rfl (.tmp rfl) rfl) rfl (lt_b rfl) ?_
    refine GoD.qr rfl rfl (QEx.ldP1 (Body.cells b) (iAV b.AngularVelocity) rfl ag3 (.tmp rfl) rfl) rfl (lt_b rfl) ?_
    refine GoD.q rfl (QEx.move rfl (.tmp rfl)) rfl (lt_b rfl) ?_
    refine GoD.qr rfl rfl (QEx.ldP (Body.cells b) (Body.av b) rfl ag29 ts29 (.tmp rfl) (le_b rfl) rfl) rfl (lt_b rfl) ?_
    refine GoD.q rfl (QEx.cal0 (r := (SolverBody.av r2)) [(Body.av b)] rfl Tryz.call18 (.cons (.tmp rfl) .nil) (body_SolverBody_ok hr2) rfl rfl) rfl (lt_b rfl) ?_
    refine GoD.q rfl (QEx.as (iAV r2.InvInertia) (QEx.field rfl Tryz.underlying53 rfl ts3 ag3 (.tmp rfl) (.inr ⟨rfl, rfl⟩))) rfl (lt_b rfl) ?_
    refine GoD.q rfl (QEx.cal0 (r := (iAV r3)) [(iAV impulse), (iAV r2.InvInertia)] rfl Tryz.call62 (.cons (.tmp rfl) (.cons (.tmp rfl) .nil)) (fixed_Mul_ok hr3) rfl rfl) rfl (lt_b rfl) ?_
    refine GoD.q rfl (QEx.cal0 (r := (iAV r4)) [(iAV b.AngularVelocity), (iAV r3)] rfl Tryz.call61 (.cons (.tmp rfl) (.cons (.tmp rfl) .nil)) (fixed_Add_ok hr4) rfl rfl) rfl (lt_b rfl) ?_
    refine GoD.q rfl (QEx.fldP 7 rfl Tryz.underlying29 rfl ts3 rfl (.tmp rfl) rfl) rfl (lt_b rfl) ?_
    refine GoD.s rfl (Z := (Body.cells x5)) rfl rfl ts3 (.tmp rfl) rfl (.tmp rfl) rfl rfl (le_b rfl) (congrArg (fun (x : Body) => (Body.cells x)) hx5) ?_
    refine GoD.nil ⟨by kernel_rfl, by kernel_rfl, by kernel_rfl, by kernel_rfl, by kernel_rfl, ?_⟩
    refine GoT.nil ?_
    refine let_e h fun r6 hr6 h => ?_
    refine let_e h fun x7 hx7 h => ?_
    refine Wp.seq ?_
    refine Wp.region ?_
    refine GoT.qr rfl rfl (QEx.ldP (Body.cells x5) (Body.av x5) rfl ag29 ts29 (.tmp rfl) (le_b rfl) rfl) rfl (lt_b rfl) ?_
    refine GoT.q rfl (QEx.cal0 (r := (Body.av r6)) [(Body.av x5)] rfl Tryz.call64 (.cons (.tmp rfl) .nil) (body_awake_ok hr6) rfl rfl) rfl (lt_b rfl) ?_
    refine GoT.s rfl (AEx.sto (Z := (Body.cells x7)) rfl rfl ts29 (.tmp rfl) rfl (.tmp rfl) rfl rfl (le_b rfl) (congrArg (fun (x : Body) => (Body.cells x)) hx7)) rfl ?_
    refine GoT.nil ?_
    refine Wp.ret ?_
    cases h
    exact LeafQ.ret [] (by decide) (.cons (.agg rfl rfl ag29 ts29) .nil) rfl
theorem ref23_ApplyAngularImpulse_ok {b : Body} {impulse : Int} {r : Body} (h : ref23_ApplyAngularImpulse b impulse = some r) : FnR Tryz.prog 28 [(Body.av b), (iAV impulse)] (Body.av r) := by
  refine FnR.intro' (fn := Tryz.f28) (N := 21) Tryz.func28 rfl rfl (Nat.le_of_ble_eq_true rfl) [2, 4] ?_
  refine Wp.seq ?_
  refine Wp.region ?_
  refine GoT.a rfl (AEx.bx (Z := (Body.cells b)) rfl (.tmp rfl) rfl rfl rfl rfl) rfl (lt_b rfl) ?_
  refine GoT.a rfl (AEx.alZ rfl zt29 rfl rfl) rfl (lt_b rfl) ?_
  refine GoT.nil ?_
  refine Wp.seq ?_
  refine Wp.seq ?_
  refine Wp.region ?_
  refine GoT.q rfl (QEx.fldP 1 rfl Tryz.underlying29 rfl ts22 rfl (.tmp rfl) rfl) rfl (lt_b rfl) ?_
  refine GoT.qr rfl rfl (QEx.ldP1 (Body.cells b) (iAV b.Kind) rfl ag22 (.tmp rfl) rfl) rfl (lt_b rfl) ?_
  refine GoT.q rfl (QEx.neqK rfl (.tmp rfl) .con) rfl (lt_b rfl) ?_
  refine GoT.nil ?_
  refine Wp.condS h rfl (fun h => ?_) (fun h => ?_)
  · refine let_e h fun x1 hx1 h => ?_
    refine Wp.seq ?_
    refine Wp.region ?_
    refine GoT.qr rfl rfl (QEx.ldP (Body.cells b) (Body.av b) rfl ag29 ts29 (.tmp rfl) (le_b rfl) rfl) rfl (lt_b rfl) ?_
    refine GoT.s rfl (AEx.sto (Z := (Body.cells x1)) rfl rfl ts29 (.tmp rfl) rfl (.tmp rfl) rfl rfl (le_b rfl) (congrArg (fun (x : Body) => (Body.cells x)) hx1)) rfl ?_
    refine GoT.nil ?_
    refine Wp.ret ?_
    cases h
    exact LeafQ.ret [] (by decide) (.cons (.agg rfl rfl ag29 ts29) .nil) rfl
  · refine Wp.skip ?_
    refine bind_e h fun r2 hr2 h => ?_
    refine bind_e h fun r3 hr3 h => ?_
    refine let_e h fun r4 hr4 h => ?_
    refine let_e h fun x5 hx5 h => ?_
    refine Wp.seq ?_
    refine Wp.drawn2 (n0 := 10) [] mixed ?_
    refine GoD.q rfl (QEx.fldP 7 rfl Tryz.underlying29 rfl ts3 rfl (.tmp rfl) rfl) rfl (lt_b rfl) ?_
    refine GoD.qr rfl rfl (QEx.ldP1 (Body.cells b) (iAV b.AngularVelocity) rfl ag3 (.tmp rfl) rfl) rfl (lt_b rfl) ?_
    refine GoD.q rfl (QEx.move rfl (.tmp rfl)) rfl (lt_b rfl) ?_
    refine GoD.qr rfl rfl (QEx.ldP (Body.cells b) (Body.av b) rfl ag29 ts29 (.tmp rfl) (le_b rfl) rfl) rfl (lt_b rfl) ?_
    refine GoD.q rfl (QEx.cal0 (r := (SolverBody.av r2)) [(Body.av b)] rfl Tryz.call19 (.cons (.tmp rfl) .nil) (ref23_SolverBody_ok hr2) rfl rfl) rfl (lt_b rfl) ?_
    refine GoD.q rfl (QEx.as (iAV r2.InvInertia) (QEx.field rfl Tryz.underlying53 rfl ts3 ag3 (.tmp rfl) (.inr ⟨rfl, rfl⟩))) rfl (lt_b rfl) ?_
    refine GoD.q rfl (QEx.cal0 (r := (iAV r3)) [(iAV impulse), (iAV r2.InvInertia)] rfl Tryz.call65 (.cons (.tmp rfl) (.cons (.tmp rfl) .nil)) (ref01_Mul_ok hr3) rfl rfl) rfl (lt_b rfl) ?_
    refine GoD.q rfl (QEx.cal0 (r := (iAV r4)) [(iAV b.AngularVelocity), (iAV r3)] rfl Tryz.call68 (.cons (.tmp rfl) (.cons (.tmp rfl) .nil)) (ref01_Add_ok hr4) rfl rfl) rfl (lt_b rfl) ?_
    refine GoD.q rfl (QEx.fldP 7 rfl Tryz.underlying29 rfl ts3 rfl (.tmp rfl) rfl) rfl (lt_b rfl) ?_
    refine GoD.s rfl (Z := (Body.cells x5)) rfl rfl ts3 (.tmp rfl) rfl (.tmp rfl) rfl rfl (le_b rfl) (congrArg (fun (x : Body) => (Body.cells x)) hx5) ?_
    refine GoD.nil ⟨by kernel_rfl, by kernel_rfl, by kernel_rfl, by kernel_rfl, by kernel_rfl, ?_⟩
    refine GoT.nil ?_
    refine let_e h fun r6 hr6 h => ?_
    refine let_e h fun r7 hr7 h => ?_
    refine let_e h fun x8 hx8 h => ?_
    refine Wp.seq ?_
    refine Wp.region ?_
    refine GoT.qr rfl rfl (QEx.ldP (Body.cells x5) (Body.av x5) rfl ag29 ts29 (.tmp rfl) (le_b rfl) rfl) rfl (lt_b rfl) ?_
    refine GoT.q rfl (QEx.cal0 (r := (Body.av r6)) [(Body.av x5)] rfl Tryz.call30 (.cons (.tmp rfl) .nil) (ref23_ClampVelocity_ok hr6) rfl rfl) rfl (lt_b rfl) ?_
    refine GoT.q rfl (QEx.cal0 (r := (Body.av r7)) [(Body.av r6)] rfl Tryz.call69 (.cons (.tmp rfl) .nil) (ref23_wake_ok hr7) rfl rfl) rfl (lt_b rfl) ?_
    refine GoT.s rfl (AEx.sto (Z := (Body.cells x8)) rfl rfl ts29 (.tmp rfl) rfl (.tmp rfl) rfl rfl (le_b rfl) (congrArg (fun (x : Body) => (Body.cells x)) hx8)) rfl ?_
    refine GoT.nil ?_
    refine Wp.ret ?_
    cases h
    exact LeafQ.ret [] (by decide) (.cons (.agg rfl rfl ag29 ts29) .nil) rfl
theorem law23_BodyImpulses_ok {b : Body} {point : Vec} {impulse : Vec} {angular : Int} {r : Bool} (h : law23_BodyImpulses b point impulse angular = some r) : FnR Tryz.prog 5 [(Body.av b), (Vec.av point), (Vec.av impulse), (iAV angular)] (boolAV r) := by
  refine FnR.intro' (fn := Tryz.f5) (N := 41) Tryz.func5 rfl rfl (Nat.le_of_ble_eq_true rfl) [4, 5, 6] ?_
  refine Wp.seq ?_
  refine Wp.region ?_
  refine GoT.a rfl (AEx.bx (Z := (Body.cells b)) rfl (.tmp rfl) rfl rfl rfl rfl) rfl (lt_b rfl) ?_
  refine GoT.a rfl (AEx.bx (Z := (Vec.cells point)) rfl (.tmp rfl) rfl rfl rfl rfl) rfl (lt_b rfl) ?_
  refine GoT.a rfl (AEx.bx (Z := (Vec.cells impulse)) rfl (.tmp rfl) rfl rfl rfl rfl) rfl (lt_b rfl) ?_
  refine GoT.q rfl (QEx.as (boolAV false) (QEx.assign rfl .con)) rfl (lt_b rfl) ?_
  refine GoT.nil ?_
  refine Wp.seq ?_
  refine bind_e h fun r1 hr1 h => ?_
  refine Wp.seq ?_
  refine Wp.region ?_
  refine GoT.qr rfl rfl (QEx.ldP (Body.cells b) (Body.av b) rfl ag29 ts29 (.tmp rfl) (le_b rfl) rfl) rfl (lt_b rfl) ?_
  refine GoT.q rfl (QEx.cal0 (r := (boolAV r1)) [(Body.av b)] rfl Tryz.call6 (.cons (.tmp rfl) .nil) (ref23_Small_ok hr1) rfl rfl) rfl (lt_b rfl) ?_
  refine GoT.q rfl (QEx.notK rfl (.tmp rfl)) rfl (lt_b rfl) ?_
  refine GoT.nil ?_
  refine Wp.condS h rfl (fun h => ?_) (fun h => ?_)
  · refine bind_e h fun r2 hr2 h => ?_
    refine Wp.seq ?_
    refine Wp.region ?_
    refine GoT.q rfl (QEx.cal0 (r := (boolAV r2)) [] rfl Tryz.call7 .nil (law23_example_ok hr2) rfl rfl) rfl (lt_b rfl) ?_
    refine GoT.q rfl (QEx.assign rfl (.tmp rfl)) rfl (lt_b rfl) ?_
    refine GoT.nil ?_
    refine Wp.ret ?_
    cases h
    exact LeafQ.ret [] (by decide) (.cons (.tmp rfl) .nil) rfl
  · refine Wp.skip ?_
    refine bind_e h fun r3 hr3 h => ?_
    refine bind_e h fun r4 hr4 h => ?_
    refine bind_e h fun r5 hr5 h => ?_
    refine bind_e h fun r6 hr6 h => ?_
    refine bind_e h fun r7 hr7 h => ?_
    refine bind_e h fun r8 hr8 h => ?_
    refine let_e h fun r9 hr9 h => ?_
    refine let_e h fun r10 hr10 h => ?_
    refine bind_e h fun r11 hr11 h => ?_
    refine bind_e h fun r12 hr12 h => ?_
    refine let_e h fun x13 hx13 h => ?_
    refine Wp.seq ?_
    refine Wp.drawn2 (n0 := 29) [] mixed ?_
    refine GoD.qr rfl rfl (QEx.ldP (Body.cells b) (Body.av b) rfl ag29 ts29 (.tmp rfl) (le_b rfl) rfl) rfl (lt_b rfl) ?_
    refine GoD.qr rfl rfl (QEx.ldP (Vec.cells point) (Vec.av point) rfl ag24 ts24 (.tmp rfl) (le_b rfl) rfl) rfl (lt_b rfl) ?_
    refine GoD.qr rfl rfl (QEx.ldP (Vec.cells impulse) (Vec.av impulse) rfl ag24 ts24 (.tmp rfl) (le_b rfl) rfl) rfl (lt_b rfl) ?_
    refine GoD.q rfl (QEx.cal0 (r := (Body.av r3)) [(Body.av b), (Vec.av point), (Vec.av impulse)] rfl Tryz.call25 (.cons (.tmp rfl) (.cons (.tmp rfl) (.cons (.tmp rfl) .nil))) (body_ApplyImpulse_ok hr3) rfl rfl) rfl (lt_b rfl) ?_
    refine GoD.qr rfl rfl (QEx.ldP (Body.cells b) (Body.av b) rfl ag29 ts29 (.tmp rfl) (le_b rfl) rfl) rfl (lt_b rfl) ?_
    refine GoD.qr rfl rfl (QEx.ldP (Vec.cells point) (Vec.av point) rfl ag24 ts24 (.tmp rfl) (le_b rfl) rfl) rfl (lt_b rfl) ?_
    refine GoD.qr rfl rfl (QEx.ldP (Vec.cells impulse) (Vec.av impulse) rfl ag24 ts24 (.tmp rfl) (le_b rfl) rfl) rfl (lt_b rfl) ?_
    refine GoD.q rfl (QEx.cal0 (r := (Body.av r4)) [(Body.av b), (Vec.av point), (Vec.av impulse)] rfl Tryz.call26 (.cons (.tmp rfl) (.cons (.tmp rfl) (.cons (.tmp rfl) .nil))) (ref23_ApplyImpulse_ok hr4) rfl rfl) rfl (lt_b rfl) ?_
    refine GoD.q rfl (QEx.cal0 (r := (boolAV r5)) [(Body.av r3), (Body.av r4)] rfl Tryz.call24 (.cons (.tmp rfl) (.cons (.tmp rfl) .nil)) (ref23_Equal_ok hr5) rfl rfl) rfl (lt_b rfl) ?_
    refine GoD.q rfl (QEx.move rfl (.tmp rfl)) rfl (lt_b rfl) ?_
    refine GoD.gr rfl rfl rfl rfl (fun hg => QEx.ldP (Body.cells b) (Body.av b) rfl ag29 ts29 (.tmp rfl) (le_b rfl) rfl) rfl (lt_b rfl) ?_
    refine GoD.g rfl rfl rfl (fun hg => QEx.move rfl (.tmp rfl)) rfl (lt_b rfl) ?_
    refine GoD.g rfl rfl rfl (fun hg => QEx.cal0 (r := (Body.av r6)) [(Body.av b), (iAV angular)] rfl Tryz.call27 (.cons (.opt (.tmp rfl) hg) (.cons (.opt (.tmp rfl) hg) .nil)) (body_ApplyAngularImpulse_ok (gcall hr6 hg)) rfl rfl) rfl (lt_b rfl) ?_
    refine GoD.gr rfl rfl rfl rfl (fun hg => QEx.ldP (Body.cells b) (Body.av b) rfl ag29 ts29 (.tmp rfl) (le_b rfl) rfl) rfl (lt_b rfl) ?_
    refine GoD.g rfl rfl rfl (fun hg => QEx.move rfl (.tmp rfl)) rfl (lt_b rfl) ?_
    refine GoD.g rfl rfl rfl (fun hg => QEx.cal0 (r := (Body.av r7)) [(Body.av b), (iAV angular)] rfl Tryz.call28 (.cons (.opt (.tmp rfl) hg) (.cons (.opt (.tmp rfl) hg) .nil)) (ref23_ApplyAngularImpulse_ok (gcall hr7 hg)) rfl rfl) rfl (lt_b rfl) ?_
    refine GoD.g rfl rfl rfl (fun hg => QEx.cal0 (r := (boolAV r8)) [(Body.av r6), (Body.av r7)] rfl Tryz.call24 (.cons (.opt (.tmp rfl) hg) (.cons (.opt (.tmp rfl) hg) .nil)) (ref23_Equal_ok (gcall hr8 hg)) rfl rfl) rfl (lt_b rfl) ?_
    refine GoD.q rfl (QEx.pickK rfl (.tmp rfl) (fun hp => (.opt (.tmp rfl) (beq_t hp))) (fun hp => .con)) rfl (lt_b rfl) ?_
    refine GoD.q rfl (QEx.move rfl (.tmp rfl)) rfl (lt_b rfl) ?_
    refine GoD.gr rfl rfl rfl rfl (fun hg => QEx.ldP (Body.cells b) (Body.av b) rfl ag29 ts29 (.tmp rfl) (le_b rfl) rfl) rfl (lt_b rfl) ?_
    refine GoD.g rfl rfl rfl (fun hg => QEx.cal0 (r := (Body.av r9)) [(Body.av b)] rfl Tryz.call29 (.cons (.opt (.tmp rfl) hg) .nil) (body_ClampVelocity_ok hr9) rfl rfl) rfl (lt_b rfl) ?_
    refine GoD.gr rfl rfl rfl rfl (fun hg => QEx.ldP (Body.cells b) (Body.av b) rfl ag29 ts29 (.tmp rfl) (le_b rfl) rfl) rfl (lt_b rfl) ?_
    refine GoD.g rfl rfl rfl (fun hg => QEx.cal0 (r := (Body.av r10)) [(Body.av b)] rfl Tryz.call30 (.cons (.opt (.tmp rfl) hg) .nil) (ref23_ClampVelocity_ok hr10) rfl rfl) rfl (lt_b rfl) ?_
    refine GoD.g rfl rfl rfl (fun hg => QEx.cal0 (r := (boolAV r11)) [(Body.av r9), (Body.av r10)] rfl Tryz.call24 (.cons (.opt (.tmp rfl) hg) (.cons (.opt (.tmp rfl) hg) .nil)) (ref23_Equal_ok (gcall hr11 hg)) rfl rfl) rfl (lt_b rfl) ?_
    refine GoD.q rfl (QEx.pickK rfl (.tmp rfl) (fun hp => (.opt (.tmp rfl) (beq_t hp))) (fun hp => .con)) rfl (lt_b rfl) ?_
    refine GoD.q rfl (QEx.move rfl (.tmp rfl)) rfl (lt_b rfl) ?_
    refine GoD.g rfl rfl rfl (fun hg => QEx.cal0 (r := (boolAV r12)) [] rfl Tryz.call7 .nil (law23_example_ok (gcall hr12 hg)) rfl rfl) rfl (lt_b rfl) ?_
    refine GoD.q rfl (QEx.pickK rfl (.tmp rfl) (fun hp => (.opt (.tmp rfl) (beq_t hp))) (fun hp => .con)) rfl (lt_b rfl) ?_
    refine GoD.q rfl (QEx.eq (QEx.assign rfl (.tmp rfl)) (congrArg boolAV hx13)) rfl (lt_b rfl) ?_
    refine GoD.nil ⟨by kernel_rfl, by kernel_rfl, by kernel_rfl, by kernel_rfl, by kernel_rfl, ?_⟩
    refine GoT.nil ?_
    refine Wp.ret ?_
    cases h
    exact LeafQ.ret [] (by decide) (.cons (.tmp rfl) .nil) rfl
end GoForm
