/- The program's functions compute their plain forms: printed by gen2.py. No conditions. -/
import Derived.Test.YtblkmlpjhpgkjaaGreatF23XW2
set_option linter.all false
set_option maxRecDepth 100000
open Go Go.Cx Go.Proofs Go.RowKit
namespace GoForm
theorem slices_Equal_Vec_ok {s1 : List Vec} {s2 : List Vec} {r : Bool} (h : slices_Equal_Vec s1 s2 = some r) : FnR Tryz.prog 160 [((slAV 2 Vec.av) s1), ((slAV 2 Vec.av) s2)] (boolAV r) := by
  refine FnR.intro' (fn := Tryz.f160) (N := 26) Tryz.func160 rfl rfl (Nat.le_of_ble_eq_true rfl) [6, 8, 11, 16, 20] ?_
  refine Wp.seq ?_
  refine Wp.region ?_
  refine GoT.q rfl (QEx.as (boolAV false) (QEx.assign rfl .con)) rfl (lt_b rfl) ?_
  refine GoT.nil ?_
  refine Wp.seq ?_
  refine Wp.seq ?_
  refine Wp.region ?_
  refine GoT.q rfl (QEx.move rfl (.tmp rfl)) rfl (lt_b rfl) ?_
  refine GoT.q rfl (QEx.lenL rfl ⟨_, uT31⟩ (.tmp rfl)) rfl (lt_b rfl) ?_
  refine GoT.q rfl (QEx.move rfl (.tmp rfl)) rfl (lt_b rfl) ?_
  refine GoT.q rfl (QEx.lenL rfl ⟨_, uT31⟩ (.tmp rfl)) rfl (lt_b rfl) ?_
  refine GoT.q rfl (QEx.neqK rfl (.tmp rfl) (.tmp rfl)) rfl (lt_b rfl) ?_
  refine GoT.nil ?_
  refine Wp.condS h rfl (fun h => ?_) (fun h => ?_)
  · refine Wp.seq ?_
    refine Wp.region ?_
    refine GoT.q rfl (QEx.as (boolAV false) (QEx.assign rfl .con)) rfl (lt_b rfl) ?_
    refine GoT.nil ?_
    refine Wp.ret ?_
    cases h
    exact LeafQ.ret [] (by decide) (.cons (.tmp rfl) .nil) rfl
  · refine Wp.skip ?_
    refine Wp.join0 (⟨[], [], [6, 8, 11, 16, 20]⟩) (slices_Equal_Vec_j2 = some r) ?_ ?_
    · intro h
      refine Wp.seq ?_
      refine Wp.region ?_
      refine GoT.q rfl (QEx.as (boolAV true) (QEx.assign rfl .con)) rfl (lt_b rfl) ?_
      refine GoT.nil ?_
      refine Wp.ret ?_
      cases h
      exact LeafQ.ret [] (by decide) (.cons (.tmp rfl) .nil) rfl
    · refine Wp.seq ?_
      refine Wp.region ?_
      refine GoT.q rfl (QEx.move rfl (.tmp rfl)) rfl (lt_b rfl) ?_
      refine GoT.q rfl (QEx.lenL rfl ⟨_, uT31⟩ (.tmp rfl)) rfl (lt_b rfl) ?_
      refine GoT.q rfl (QEx.as (iAV 0) (QEx.move rfl .con)) rfl (lt_b rfl) ?_
      refine GoT.nil ?_
      refine Wp.block ?_
      refine Wp.loop1 (fun v1 => ⟨[(0, ((slAV 2 Vec.av) s1)), (1, ((slAV 2 Vec.av) s2)), (12, (iAV ((s1).length : Int))), (13, (iAV v1))], [], [6, 8, 11, 16, 20]⟩) (fun n v1 => slices_Equal_Vec_l1 s1 s2 slices_Equal_Vec_j2 n v1 = some r) fuel 0 [] [] h (LS.to.mk (.b rfl rfl (.b rfl rfl (.b rfl rfl (.b rfl rfl .n)))) .n rfl) ?_
      rintro (_ | n2) v1 h
      · exact none_e h
      rw [slices_Equal_Vec_l1] at h
      refine Wp.seq ?_
      refine Wp.region ?_
      refine GoT.q rfl (QEx.lssK rfl (.tmp rfl) (.tmp rfl)) rfl (lt_b rfl) ?_
      refine GoT.nil ?_
      refine Wp.seq ?_
      refine Wp.condS h rfl (fun h => ?_) (fun h => ?_)
      · refine Wp.skip ?_
        refine Wp.seq ?_
        refine Wp.block ?_
        refine Wp.seq ?_
        refine Wp.region ?_
        refine GoT.q rfl (QEx.move rfl (.tmp rfl)) rfl (lt_b rfl) ?_
        refine GoT.q rfl (QEx.assign rfl (.tmp rfl)) rfl (lt_b rfl) ?_
        refine GoT.nil ?_
        refine chk_e h fun c2 h => ?_
        refine chk_e h fun c3 h => ?_
        refine Wp.seq ?_
        refine Wp.drawn2 (n0 := 9) [6, 8, 11, 16, 20] mixed ?_
        refine GoD.q rfl (QEx.move rfl (.tmp rfl)) rfl (lt_b rfl) ?_
        refine GoD.q rfl (QEx.move rfl (.tmp rfl)) rfl (lt_b rfl) ?_
        refine GoD.q rfl (QEx.as (.cptr (Vec.cells (ix s1 v1))) (QEx.idxL (E := Vec.av) rfl et31 (.tmp rfl) (.tmp rfl) c2)) rfl (lt_b rfl) ?_
        refine GoD.q rfl (QEx.ldC (x := (Vec.av (ix s1 v1))) rfl ag24 ts24 (.tmp rfl) (.inl ⟨rfl, rfl, rfl⟩)) rfl (lt_b rfl) ?_
        refine GoD.q rfl (QEx.move rfl (.tmp rfl)) rfl (lt_b rfl) ?_
        refine GoD.q rfl (QEx.move rfl (.tmp rfl)) rfl (lt_b rfl) ?_
        refine GoD.q rfl (QEx.as (.cptr (Vec.cells (ix s2 v1))) (QEx.idxL (E := Vec.av) rfl et31 (.tmp rfl) (.tmp rfl) c3)) rfl (lt_b rfl) ?_
        refine GoD.q rfl (QEx.ldC (x := (Vec.av (ix s2 v1))) rfl ag24 ts24 (.tmp rfl) (.inl ⟨rfl, rfl, rfl⟩)) rfl (lt_b rfl) ?_
        refine GoD.q rfl (QEx.neqA rfl eq24 (.tmp rfl) (.tmp rfl)) rfl (lt_b rfl) ?_
        refine GoD.nil ⟨by kernel_rfl, by kernel_rfl, by kernel_rfl, by kernel_rfl, by kernel_rfl, ?_⟩
        refine GoT.nil ?_
        refine Wp.condS h rfl (fun h => ?_) (fun h => ?_)
        · refine Wp.seq ?_
          refine Wp.region ?_
          refine GoT.q rfl (QEx.as (boolAV false) (QEx.assign rfl .con)) rfl (lt_b rfl) ?_
          refine GoT.nil ?_
          refine Wp.ret ?_
          cases h
          exact LeafQ.ret [] (by decide) (.cons (.tmp rfl) .nil) rfl
        · refine Wp.skip ?_
          refine let_e h fun x4 hx4 h => ?_
          refine Wp.region ?_
          refine GoT.q rfl (QEx.addK rfl (.tmp rfl) .con) rfl (lt_b rfl) ?_
          refine GoT.q rfl (QEx.eq (QEx.move rfl (.tmp rfl)) (congrArg iAV hx4)) rfl (lt_b rfl) ?_
          refine GoT.nil ?_
          exact Round1.mk x4 [] [] h (LS.to.mk (.b rfl rfl (.b rfl rfl (.b rfl rfl (.b rfl rfl .n)))) .n rfl)
      · refine Wp.exit ?_
        exact Joined0.mk [] [] h (LS.to.mk .n .n rfl)
theorem shape_Equal_ok {a : Shape} {b : Shape} {r : Bool} (h : shape_Equal a b = some r) : FnR Tryz.prog 124 [(Shape.av a), (Shape.av b)] (boolAV r) := by
  refine FnR.intro' (fn := Tryz.f124) (N := 24) Tryz.func124 rfl rfl (Nat.le_of_ble_eq_true rfl) [2, 3] ?_
  refine Wp.seq ?_
  refine Wp.region ?_
  refine GoT.a rfl (AEx.bx (Z := (Shape.cells a)) rfl (.tmp rfl) rfl rfl rfl rfl) rfl (lt_b rfl) ?_
  refine GoT.a rfl (AEx.bx (Z := (Shape.cells b)) rfl (.tmp rfl) rfl rfl rfl rfl) rfl (lt_b rfl) ?_
  refine GoT.q rfl (QEx.as (boolAV false) (QEx.assign rfl .con)) rfl (lt_b rfl) ?_
  refine GoT.nil ?_
  refine bind_e h fun r1 hr1 h => ?_
  refine let_e h fun x2 hx2 h => ?_
  refine Wp.seq ?_
  refine Wp.region ?_
  refine GoT.q rfl (QEx.fldP 0 rfl uT33 rfl ts30 rfl (.tmp rfl) rfl) rfl (lt_b rfl) ?_
  refine GoT.qr rfl rfl (QEx.ldP1 (Shape.cells a) (iAV a.Kind) rfl ag30 (.tmp rfl) rfl) rfl (lt_b rfl) ?_
  refine GoT.q rfl (QEx.fldP 0 rfl uT33 rfl ts30 rfl (.tmp rfl) rfl) rfl (lt_b rfl) ?_
  refine GoT.qr rfl rfl (QEx.ldP1 (Shape.cells b) (iAV b.Kind) rfl ag30 (.tmp rfl) rfl) rfl (lt_b rfl) ?_
  refine GoT.q rfl (QEx.eqlK rfl (.tmp rfl) (.tmp rfl)) rfl (lt_b rfl) ?_
  refine GoT.q rfl (QEx.move rfl (.tmp rfl)) rfl (lt_b rfl) ?_
  refine GoT.g rfl rfl rfl (fun hg => QEx.fldP 1 rfl uT33 rfl ts3 rfl (.tmp rfl) rfl) rfl (lt_b rfl) ?_
  refine GoT.gr rfl rfl rfl rfl (fun hg => QEx.ldP1 (Shape.cells a) (iAV a.Radius) rfl ag3 (.opt (.tmp rfl) hg) rfl) rfl (lt_b rfl) ?_
  refine GoT.g rfl rfl rfl (fun hg => QEx.fldP 1 rfl uT33 rfl ts3 rfl (.tmp rfl) rfl) rfl (lt_b rfl) ?_
  refine GoT.gr rfl rfl rfl rfl (fun hg => QEx.ldP1 (Shape.cells b) (iAV b.Radius) rfl ag3 (.opt (.tmp rfl) hg) rfl) rfl (lt_b rfl) ?_
  refine GoT.g rfl rfl rfl (fun hg => QEx.eqlK rfl (.opt (.tmp rfl) hg) (.opt (.tmp rfl) hg)) rfl (lt_b rfl) ?_
  refine GoT.q rfl (QEx.pickK rfl (.tmp rfl) (fun hp => (.opt (.tmp rfl) (beq_t hp))) (fun hp => .con)) rfl (lt_b rfl) ?_
  refine GoT.q rfl (QEx.move rfl (.tmp rfl)) rfl (lt_b rfl) ?_
  refine GoT.g rfl rfl rfl (fun hg => QEx.fldP 2 rfl uT33 rfl ts31 rfl (.tmp rfl) rfl) rfl (lt_b rfl) ?_
  refine GoT.gr rfl rfl rfl rfl (fun hg => QEx.ldP1 (Shape.cells a) ((slAV 2 Vec.av) a.Vertices) rfl ag31 (.opt (.tmp rfl) hg) rfl) rfl (lt_b rfl) ?_
  refine GoT.g rfl rfl rfl (fun hg => QEx.fldP 2 rfl uT33 rfl ts31 rfl (.tmp rfl) rfl) rfl (lt_b rfl) ?_
  refine GoT.gr rfl rfl rfl rfl (fun hg => QEx.ldP1 (Shape.cells b) ((slAV 2 Vec.av) b.Vertices) rfl ag31 (.opt (.tmp rfl) hg) rfl) rfl (lt_b rfl) ?_
  refine GoT.g rfl rfl rfl (fun hg => QEx.cal0 (r := (boolAV r1)) [((slAV 2 Vec.av) a.Vertices), ((slAV 2 Vec.av) b.Vertices)] rfl Tryz.call160 (.cons (.opt (.tmp rfl) hg) (.cons (.opt (.tmp rfl) hg) .nil)) (slices_Equal_Vec_ok (gcall hr1 hg)) rfl rfl) rfl (lt_b rfl) ?_
  refine GoT.q rfl (QEx.pickK rfl (.tmp rfl) (fun hp => (.opt (.tmp rfl) (beq_t hp))) (fun hp => .con)) rfl (lt_b rfl) ?_
  refine GoT.q rfl (QEx.eq (QEx.assign rfl (.tmp rfl)) (congrArg boolAV hx2)) rfl (lt_b rfl) ?_
  refine GoT.nil ?_
  refine Wp.ret ?_
  cases h
  exact LeafQ.ret [] (by decide) (.cons (.tmp rfl) .nil) rfl
theorem body_equalFixtures_ok {a : Fixture} {b : Fixture} {r : Bool} (h : body_equalFixtures a b = some r) : FnR Tryz.prog 72 [(Fixture.av a), (Fixture.av b)] (boolAV r) := by
  refine FnR.intro' (fn := Tryz.f72) (N := 63) Tryz.func72 rfl rfl (Nat.le_of_ble_eq_true rfl) [2, 3] ?_
  refine Wp.seq ?_
  refine Wp.region ?_
  refine GoT.a rfl (AEx.bx (Z := (Fixture.cells a)) rfl (.tmp rfl) rfl rfl rfl rfl) rfl (lt_b rfl) ?_
  refine GoT.a rfl (AEx.bx (Z := (Fixture.cells b)) rfl (.tmp rfl) rfl rfl rfl rfl) rfl (lt_b rfl) ?_
  refine GoT.q rfl (QEx.as (boolAV false) (QEx.assign rfl .con)) rfl (lt_b rfl) ?_
  refine GoT.nil ?_
  refine let_e h fun x1 hx1 h => ?_
  refine Wp.seq ?_
  refine Wp.region ?_
  refine GoT.q rfl (QEx.fldP 3 rfl uT35 rfl ts3 rfl (.tmp rfl) rfl) rfl (lt_b rfl) ?_
  refine GoT.qr rfl rfl (QEx.ldP1 (Fixture.cells a) (iAV a.Density) rfl ag3 (.tmp rfl) rfl) rfl (lt_b rfl) ?_
  refine GoT.q rfl (QEx.fldP 3 rfl uT35 rfl ts3 rfl (.tmp rfl) rfl) rfl (lt_b rfl) ?_
  refine GoT.qr rfl rfl (QEx.ldP1 (Fixture.cells b) (iAV b.Density) rfl ag3 (.tmp rfl) rfl) rfl (lt_b rfl) ?_
  refine GoT.q rfl (QEx.eqlK rfl (.tmp rfl) (.tmp rfl)) rfl (lt_b rfl) ?_
  refine GoT.q rfl (QEx.move rfl (.tmp rfl)) rfl (lt_b rfl) ?_
  refine GoT.g rfl rfl rfl (fun hg => QEx.fldP 4 rfl uT35 rfl ts3 rfl (.tmp rfl) rfl) rfl (lt_b rfl) ?_
  refine GoT.gr rfl rfl rfl rfl (fun hg => QEx.ldP1 (Fixture.cells a) (iAV a.Friction) rfl ag3 (.opt (.tmp rfl) hg) rfl) rfl (lt_b rfl) ?_
  refine GoT.g rfl rfl rfl (fun hg => QEx.fldP 4 rfl uT35 rfl ts3 rfl (.tmp rfl) rfl) rfl (lt_b rfl) ?_
  refine GoT.gr rfl rfl rfl rfl (fun hg => QEx.ldP1 (Fixture.cells b) (iAV b.Friction) rfl ag3 (.opt (.tmp rfl) hg) rfl) rfl (lt_b rfl) ?_
  refine GoT.g rfl rfl rfl (fun hg => QEx.eqlK rfl (.opt (.tmp rfl) hg) (.opt (.tmp rfl) hg)) rfl (lt_b rfl) ?_
  refine GoT.q rfl (QEx.pickK rfl (.tmp rfl) (fun hp => (.opt (.tmp rfl) (beq_t hp))) (fun hp => .con)) rfl (lt_b rfl) ?_
  refine GoT.q rfl (QEx.move rfl (.tmp rfl)) rfl (lt_b rfl) ?_
  refine GoT.g rfl rfl rfl (fun hg => QEx.fldP 5 rfl uT35 rfl ts3 rfl (.tmp rfl) rfl) rfl (lt_b rfl) ?_
  refine GoT.gr rfl rfl rfl rfl (fun hg => QEx.ldP1 (Fixture.cells a) (iAV a.Restitution) rfl ag3 (.opt (.tmp rfl) hg) rfl) rfl (lt_b rfl) ?_
  refine GoT.g rfl rfl rfl (fun hg => QEx.fldP 5 rfl uT35 rfl ts3 rfl (.tmp rfl) rfl) rfl (lt_b rfl) ?_
  refine GoT.gr rfl rfl rfl rfl (fun hg => QEx.ldP1 (Fixture.cells b) (iAV b.Restitution) rfl ag3 (.opt (.tmp rfl) hg) rfl) rfl (lt_b rfl) ?_
  refine GoT.g rfl rfl rfl (fun hg => QEx.eqlK rfl (.opt (.tmp rfl) hg) (.opt (.tmp rfl) hg)) rfl (lt_b rfl) ?_
  refine GoT.q rfl (QEx.pickK rfl (.tmp rfl) (fun hp => (.opt (.tmp rfl) (beq_t hp))) (fun hp => .con)) rfl (lt_b rfl) ?_
  refine GoT.q rfl (QEx.eq (QEx.assign rfl (.tmp rfl)) (congrArg boolAV hx1)) rfl (lt_b rfl) ?_
  refine GoT.nil ?_
  refine let_e h fun x2 hx2 h => ?_
  refine Wp.seq ?_
  refine Wp.region ?_
  refine GoT.q rfl (QEx.fldP 6 rfl uT35 rfl ts4 rfl (.tmp rfl) rfl) rfl (lt_b rfl) ?_
  refine GoT.qr rfl rfl (QEx.ldP1 (Fixture.cells a) (boolAV a.Sensor) rfl ag4 (.tmp rfl) rfl) rfl (lt_b rfl) ?_
  refine GoT.q rfl (QEx.fldP 6 rfl uT35 rfl ts4 rfl (.tmp rfl) rfl) rfl (lt_b rfl) ?_
  refine GoT.qr rfl rfl (QEx.ldP1 (Fixture.cells b) (boolAV b.Sensor) rfl ag4 (.tmp rfl) rfl) rfl (lt_b rfl) ?_
  refine GoT.q rfl (QEx.eqlB rfl (.tmp rfl) (.tmp rfl) uT4) rfl (lt_b rfl) ?_
  refine GoT.q rfl (QEx.move rfl (.tmp rfl)) rfl (lt_b rfl) ?_
  refine GoT.g rfl rfl rfl (fun hg => QEx.fldP 7 rfl uT35 rfl ts3 rfl (.tmp rfl) rfl) rfl (lt_b rfl) ?_
  refine GoT.gr rfl rfl rfl rfl (fun hg => QEx.ldP1 (Fixture.cells a) (iAV a.Category) rfl ag3 (.opt (.tmp rfl) hg) rfl) rfl (lt_b rfl) ?_
  refine GoT.g rfl rfl rfl (fun hg => QEx.fldP 7 rfl uT35 rfl ts3 rfl (.tmp rfl) rfl) rfl (lt_b rfl) ?_
  refine GoT.gr rfl rfl rfl rfl (fun hg => QEx.ldP1 (Fixture.cells b) (iAV b.Category) rfl ag3 (.opt (.tmp rfl) hg) rfl) rfl (lt_b rfl) ?_
  refine GoT.g rfl rfl rfl (fun hg => QEx.eqlK rfl (.opt (.tmp rfl) hg) (.opt (.tmp rfl) hg)) rfl (lt_b rfl) ?_
  refine GoT.q rfl (QEx.pickK rfl (.tmp rfl) (fun hp => (.opt (.tmp rfl) (beq_t hp))) (fun hp => .con)) rfl (lt_b rfl) ?_
  refine GoT.q rfl (QEx.move rfl (.tmp rfl)) rfl (lt_b rfl) ?_
  refine GoT.g rfl rfl rfl (fun hg => QEx.fldP 8 rfl uT35 rfl ts3 rfl (.tmp rfl) rfl) rfl (lt_b rfl) ?_
  refine GoT.gr rfl rfl rfl rfl (fun hg => QEx.ldP1 (Fixture.cells a) (iAV a.Mask) rfl ag3 (.opt (.tmp rfl) hg) rfl) rfl (lt_b rfl) ?_
  refine GoT.g rfl rfl rfl (fun hg => QEx.fldP 8 rfl uT35 rfl ts3 rfl (.tmp rfl) rfl) rfl (lt_b rfl) ?_
  refine GoT.gr rfl rfl rfl rfl (fun hg => QEx.ldP1 (Fixture.cells b) (iAV b.Mask) rfl ag3 (.opt (.tmp rfl) hg) rfl) rfl (lt_b rfl) ?_
  refine GoT.g rfl rfl rfl (fun hg => QEx.eqlK rfl (.opt (.tmp rfl) hg) (.opt (.tmp rfl) hg)) rfl (lt_b rfl) ?_
  refine GoT.q rfl (QEx.pickK rfl (.tmp rfl) (fun hp => (.opt (.tmp rfl) (beq_t hp))) (fun hp => .con)) rfl (lt_b rfl) ?_
  refine GoT.q rfl (QEx.move rfl (.tmp rfl)) rfl (lt_b rfl) ?_
  refine GoT.g rfl rfl rfl (fun hg => QEx.fldP 9 rfl uT35 rfl ts3 rfl (.tmp rfl) rfl) rfl (lt_b rfl) ?_
  refine GoT.gr rfl rfl rfl rfl (fun hg => QEx.ldP1 (Fixture.cells a) (iAV a.Group) rfl ag3 (.opt (.tmp rfl) hg) rfl) rfl (lt_b rfl) ?_
  refine GoT.g rfl rfl rfl (fun hg => QEx.fldP 9 rfl uT35 rfl ts3 rfl (.tmp rfl) rfl) rfl (lt_b rfl) ?_
  refine GoT.gr rfl rfl rfl rfl (fun hg => QEx.ldP1 (Fixture.cells b) (iAV b.Group) rfl ag3 (.opt (.tmp rfl) hg) rfl) rfl (lt_b rfl) ?_
  refine GoT.g rfl rfl rfl (fun hg => QEx.eqlK rfl (.opt (.tmp rfl) hg) (.opt (.tmp rfl) hg)) rfl (lt_b rfl) ?_
  refine GoT.q rfl (QEx.pickK rfl (.tmp rfl) (fun hp => (.opt (.tmp rfl) (beq_t hp))) (fun hp => .con)) rfl (lt_b rfl) ?_
  refine GoT.q rfl (QEx.eq (QEx.assign rfl (.tmp rfl)) (congrArg boolAV hx2)) rfl (lt_b rfl) ?_
  refine GoT.nil ?_
  refine bind_e h fun r3 hr3 h => ?_
  refine let_e h fun x4 hx4 h => ?_
  refine Wp.seq ?_
  refine Wp.region ?_
  refine GoT.q rfl (QEx.fldP 0 rfl uT35 rfl ts33 rfl (.tmp rfl) rfl) rfl (lt_b rfl) ?_
  refine GoT.qr rfl rfl (QEx.ldP (Fixture.cells a) (Shape.av a.Shape) rfl ag33 ts33 (.tmp rfl) (le_b rfl) rfl) rfl (lt_b rfl) ?_
  refine GoT.q rfl (QEx.fldP 0 rfl uT35 rfl ts33 rfl (.tmp rfl) rfl) rfl (lt_b rfl) ?_
  refine GoT.qr rfl rfl (QEx.ldP (Fixture.cells b) (Shape.av b.Shape) rfl ag33 ts33 (.tmp rfl) (le_b rfl) rfl) rfl (lt_b rfl) ?_
  refine GoT.q rfl (QEx.cal0 (r := (boolAV r3)) [(Shape.av a.Shape), (Shape.av b.Shape)] rfl Tryz.call124 (.cons (.tmp rfl) (.cons (.tmp rfl) .nil)) (shape_Equal_ok hr3) rfl rfl) rfl (lt_b rfl) ?_
  refine GoT.q rfl (QEx.move rfl (.tmp rfl)) rfl (lt_b rfl) ?_
  refine GoT.g rfl rfl rfl (fun hg => QEx.move rfl (.tmp rfl)) rfl (lt_b rfl) ?_
  refine GoT.q rfl (QEx.pickK rfl (.tmp rfl) (fun hp => (.opt (.tmp rfl) (beq_t hp))) (fun hp => .con)) rfl (lt_b rfl) ?_
  refine GoT.q rfl (QEx.move rfl (.tmp rfl)) rfl (lt_b rfl) ?_
  refine GoT.g rfl rfl rfl (fun hg => QEx.move rfl (.tmp rfl)) rfl (lt_b rfl) ?_
  refine GoT.q rfl (QEx.pickK rfl (.tmp rfl) (fun hp => (.opt (.tmp rfl) (beq_t hp))) (fun hp => .con)) rfl (lt_b rfl) ?_
  refine GoT.q rfl (QEx.eq (QEx.assign rfl (.tmp rfl)) (congrArg boolAV hx4)) rfl (lt_b rfl) ?_
  refine GoT.nil ?_
  refine Wp.ret ?_
  cases h
  exact LeafQ.ret [] (by decide) (.cons (.tmp rfl) .nil) rfl
theorem body_Equal_ok {a : Body} {b : Body} {r : Bool} (h : body_Equal a b = some r) : FnR Tryz.prog 32 [(Body.av a), (Body.av b)] (boolAV r) := by
  refine FnR.intro' (fn := Tryz.f32) (N := 146) Tryz.func32 rfl rfl (Nat.le_of_ble_eq_true rfl) [2, 3, 6] ?_
  refine Wp.seq ?_
  refine Wp.region ?_
  refine GoT.a rfl (AEx.bx (Z := (Body.cells a)) rfl (.tmp rfl) rfl rfl rfl rfl) rfl (lt_b rfl) ?_
  refine GoT.a rfl (AEx.bx (Z := (Body.cells b)) rfl (.tmp rfl) rfl rfl rfl rfl) rfl (lt_b rfl) ?_
  refine GoT.q rfl (QEx.as (boolAV false) (QEx.assign rfl .con)) rfl (lt_b rfl) ?_
  refine GoT.nil ?_
  refine Wp.seq ?_
  refine Wp.seq ?_
  refine Wp.region ?_
  refine GoT.q rfl (QEx.fldP 19 rfl uT29 rfl ts27 rfl (.tmp rfl) rfl) rfl (lt_b rfl) ?_
  refine GoT.qr rfl rfl (QEx.ldP1 (Body.cells a) ((slAV 10 Fixture.av) a.Fixtures) rfl ag27 (.tmp rfl) rfl) rfl (lt_b rfl) ?_
  refine GoT.q rfl (QEx.lenL rfl ⟨_, uT27⟩ (.tmp rfl)) rfl (lt_b rfl) ?_
  refine GoT.q rfl (QEx.fldP 19 rfl uT29 rfl ts27 rfl (.tmp rfl) rfl) rfl (lt_b rfl) ?_
  refine GoT.qr rfl rfl (QEx.ldP1 (Body.cells b) ((slAV 10 Fixture.av) b.Fixtures) rfl ag27 (.tmp rfl) rfl) rfl (lt_b rfl) ?_
  refine GoT.q rfl (QEx.lenL rfl ⟨_, uT27⟩ (.tmp rfl)) rfl (lt_b rfl) ?_
  refine GoT.q rfl (QEx.neqK rfl (.tmp rfl) (.tmp rfl)) rfl (lt_b rfl) ?_
  refine GoT.nil ?_
  refine Wp.condS h rfl (fun h => ?_) (fun h => ?_)
  · refine Wp.seq ?_
    refine Wp.region ?_
    refine GoT.q rfl (QEx.as (boolAV false) (QEx.assign rfl .con)) rfl (lt_b rfl) ?_
    refine GoT.nil ?_
    refine Wp.ret ?_
    cases h
    exact LeafQ.ret [] (by decide) (.cons (.tmp rfl) .nil) rfl
  · refine Wp.skip ?_
    refine Wp.join0 (⟨[(2, (.ptr 2 0)), (3, (.ptr 3 0))], [(2, .cells (Body.cells a)), (3, .cells (Body.cells b))], [6]⟩) ((body_Equal_j2 a b) = some r) ?_ ?_
    · intro h
      refine let_e h fun x7 hx7 h => ?_
      refine Wp.seq ?_
      refine Wp.region ?_
      refine GoT.q rfl (QEx.fldP 0 rfl uT29 rfl ts3 rfl (.tmp rfl) rfl) rfl (lt_b rfl) ?_
      refine GoT.qr rfl rfl (QEx.ldP1 (Body.cells a) (iAV a.ID) rfl ag3 (.tmp rfl) rfl) rfl (lt_b rfl) ?_
      refine GoT.q rfl (QEx.fldP 0 rfl uT29 rfl ts3 rfl (.tmp rfl) rfl) rfl (lt_b rfl) ?_
      refine GoT.qr rfl rfl (QEx.ldP1 (Body.cells b) (iAV b.ID) rfl ag3 (.tmp rfl) rfl) rfl (lt_b rfl) ?_
      refine GoT.q rfl (QEx.eqlK rfl (.tmp rfl) (.tmp rfl)) rfl (lt_b rfl) ?_
      refine GoT.q rfl (QEx.move rfl (.tmp rfl)) rfl (lt_b rfl) ?_
      refine GoT.g rfl rfl rfl (fun hg => QEx.fldP 1 rfl uT29 rfl ts22 rfl (.tmp rfl) rfl) rfl (lt_b rfl) ?_
      refine GoT.gr rfl rfl rfl rfl (fun hg => QEx.ldP1 (Body.cells a) (iAV a.Kind) rfl ag22 (.opt (.tmp rfl) hg) rfl) rfl (lt_b rfl) ?_
      refine GoT.g rfl rfl rfl (fun hg => QEx.fldP 1 rfl uT29 rfl ts22 rfl (.tmp rfl) rfl) rfl (lt_b rfl) ?_
      refine GoT.gr rfl rfl rfl rfl (fun hg => QEx.ldP1 (Body.cells b) (iAV b.Kind) rfl ag22 (.opt (.tmp rfl) hg) rfl) rfl (lt_b rfl) ?_
      refine GoT.g rfl rfl rfl (fun hg => QEx.eqlK rfl (.opt (.tmp rfl) hg) (.opt (.tmp rfl) hg)) rfl (lt_b rfl) ?_
      refine GoT.q rfl (QEx.pickK rfl (.tmp rfl) (fun hp => (.opt (.tmp rfl) (beq_t hp))) (fun hp => .con)) rfl (lt_b rfl) ?_
      refine GoT.q rfl (QEx.move rfl (.tmp rfl)) rfl (lt_b rfl) ?_
      refine GoT.g rfl rfl rfl (fun hg => QEx.fldP 2 rfl uT29 rfl ts26 rfl (.tmp rfl) rfl) rfl (lt_b rfl) ?_
      refine GoT.gr rfl rfl rfl rfl (fun hg => QEx.ldP (Body.cells a) (Transform.av a.Transform) rfl ag26 ts26 (.opt (.tmp rfl) hg) (le_b rfl) rfl) rfl (lt_b rfl) ?_
      refine GoT.g rfl rfl rfl (fun hg => QEx.fldP 2 rfl uT29 rfl ts26 rfl (.tmp rfl) rfl) rfl (lt_b rfl) ?_
      refine GoT.gr rfl rfl rfl rfl (fun hg => QEx.ldP (Body.cells b) (Transform.av b.Transform) rfl ag26 ts26 (.opt (.tmp rfl) hg) (le_b rfl) rfl) rfl (lt_b rfl) ?_
      refine GoT.g rfl rfl rfl (fun hg => QEx.eqlA rfl eq26 (.opt (.tmp rfl) hg) (.opt (.tmp rfl) hg)) rfl (lt_b rfl) ?_
      refine GoT.q rfl (QEx.pickK rfl (.tmp rfl) (fun hp => (.opt (.tmp rfl) (beq_t hp))) (fun hp => .con)) rfl (lt_b rfl) ?_
      refine GoT.q rfl (QEx.eq (QEx.assign rfl (.tmp rfl)) (congrArg boolAV hx7)) rfl (lt_b rfl) ?_
      refine GoT.nil ?_
      refine let_e h fun x8 hx8 h => ?_
      refine Wp.seq ?_
      refine Wp.region ?_
      refine GoT.q rfl (QEx.fldP 5 rfl uT29 rfl ts24 rfl (.tmp rfl) rfl) rfl (lt_b rfl) ?_
      refine GoT.qr rfl rfl (QEx.ldP (Body.cells a) (Vec.av a.Velocity) rfl ag24 ts24 (.tmp rfl) (le_b rfl) rfl) rfl (lt_b rfl) ?_
      refine GoT.q rfl (QEx.fldP 5 rfl uT29 rfl ts24 rfl (.tmp rfl) rfl) rfl (lt_b rfl) ?_
      refine GoT.qr rfl rfl (QEx.ldP (Body.cells b) (Vec.av b.Velocity) rfl ag24 ts24 (.tmp rfl) (le_b rfl) rfl) rfl (lt_b rfl) ?_
      refine GoT.q rfl (QEx.eqlA rfl eq24 (.tmp rfl) (.tmp rfl)) rfl (lt_b rfl) ?_
      refine GoT.q rfl (QEx.move rfl (.tmp rfl)) rfl (lt_b rfl) ?_
      refine GoT.g rfl rfl rfl (fun hg => QEx.fldP 7 rfl uT29 rfl ts3 rfl (.tmp rfl) rfl) rfl (lt_b rfl) ?_
      refine GoT.gr rfl rfl rfl rfl (fun hg => QEx.ldP1 (Body.cells a) (iAV a.AngularVelocity) rfl ag3 (.opt (.tmp rfl) hg) rfl) rfl (lt_b rfl) ?_
      refine GoT.g rfl rfl rfl (fun hg => QEx.fldP 7 rfl uT29 rfl ts3 rfl (.tmp rfl) rfl) rfl (lt_b rfl) ?_
      refine GoT.gr rfl rfl rfl rfl (fun hg => QEx.ldP1 (Body.cells b) (iAV b.AngularVelocity) rfl ag3 (.opt (.tmp rfl) hg) rfl) rfl (lt_b rfl) ?_
      refine GoT.g rfl rfl rfl (fun hg => QEx.eqlK rfl (.opt (.tmp rfl) hg) (.opt (.tmp rfl) hg)) rfl (lt_b rfl) ?_
      refine GoT.q rfl (QEx.pickK rfl (.tmp rfl) (fun hp => (.opt (.tmp rfl) (beq_t hp))) (fun hp => .con)) rfl (lt_b rfl) ?_
      refine GoT.q rfl (QEx.eq (QEx.assign rfl (.tmp rfl)) (congrArg boolAV hx8)) rfl (lt_b rfl) ?_
      refine GoT.nil ?_
      refine let_e h fun x9 hx9 h => ?_
      refine Wp.seq ?_
      refine Wp.region ?_
      refine GoT.q rfl (QEx.fldP 8 rfl uT29 rfl ts24 rfl (.tmp rfl) rfl) rfl (lt_b rfl) ?_
      refine GoT.qr rfl rfl (QEx.ldP (Body.cells a) (Vec.av a.Force) rfl ag24 ts24 (.tmp rfl) (le_b rfl) rfl) rfl (lt_b rfl) ?_
      refine GoT.q rfl (QEx.fldP 8 rfl uT29 rfl ts24 rfl (.tmp rfl) rfl) rfl (lt_b rfl) ?_
      refine GoT.qr rfl rfl (QEx.ldP (Body.cells b) (Vec.av b.Force) rfl ag24 ts24 (.tmp rfl) (le_b rfl) rfl) rfl (lt_b rfl) ?_
      refine GoT.q rfl (QEx.eqlA rfl eq24 (.tmp rfl) (.tmp rfl)) rfl (lt_b rfl) ?_
      refine GoT.q rfl (QEx.move rfl (.tmp rfl)) rfl (lt_b rfl) ?_
      refine GoT.g rfl rfl rfl (fun hg => QEx.fldP 10 rfl uT29 rfl ts3 rfl (.tmp rfl) rfl) rfl (lt_b rfl) ?_
      refine GoT.gr rfl rfl rfl rfl (fun hg => QEx.ldP1 (Body.cells a) (iAV a.Torque) rfl ag3 (.opt (.tmp rfl) hg) rfl) rfl (lt_b rfl) ?_
      refine GoT.g rfl rfl rfl (fun hg => QEx.fldP 10 rfl uT29 rfl ts3 rfl (.tmp rfl) rfl) rfl (lt_b rfl) ?_
      refine GoT.gr rfl rfl rfl rfl (fun hg => QEx.ldP1 (Body.cells b) (iAV b.Torque) rfl ag3 (.opt (.tmp rfl) hg) rfl) rfl (lt_b rfl) ?_
      refine GoT.g rfl rfl rfl (fun hg => QEx.eqlK rfl (.opt (.tmp rfl) hg) (.opt (.tmp rfl) hg)) rfl (lt_b rfl) ?_
      refine GoT.q rfl (QEx.pickK rfl (.tmp rfl) (fun hp => (.opt (.tmp rfl) (beq_t hp))) (fun hp => .con)) rfl (lt_b rfl) ?_
      refine GoT.q rfl (QEx.eq (QEx.assign rfl (.tmp rfl)) (congrArg boolAV hx9)) rfl (lt_b rfl) ?_
      refine GoT.nil ?_
      refine let_e h fun x10 hx10 h => ?_
      refine Wp.seq ?_
      refine Wp.region ?_
      refine GoT.q rfl (QEx.fldP 11 rfl uT29 rfl ts3 rfl (.tmp rfl) rfl) rfl (lt_b rfl) ?_
      refine GoT.qr rfl rfl (QEx.ldP1 (Body.cells a) (iAV a.LinearDamping) rfl ag3 (.tmp rfl) rfl) rfl (lt_b rfl) ?_
      refine GoT.q rfl (QEx.fldP 11 rfl uT29 rfl ts3 rfl (.tmp rfl) rfl) rfl (lt_b rfl) ?_
      refine GoT.qr rfl rfl (QEx.ldP1 (Body.cells b) (iAV b.LinearDamping) rfl ag3 (.tmp rfl) rfl) rfl (lt_b rfl) ?_
      refine GoT.q rfl (QEx.eqlK rfl (.tmp rfl) (.tmp rfl)) rfl (lt_b rfl) ?_
      refine GoT.q rfl (QEx.move rfl (.tmp rfl)) rfl (lt_b rfl) ?_
      refine GoT.g rfl rfl rfl (fun hg => QEx.fldP 12 rfl uT29 rfl ts3 rfl (.tmp rfl) rfl) rfl (lt_b rfl) ?_
      refine GoT.gr rfl rfl rfl rfl (fun hg => QEx.ldP1 (Body.cells a) (iAV a.AngularDamping) rfl ag3 (.opt (.tmp rfl) hg) rfl) rfl (lt_b rfl) ?_
      refine GoT.g rfl rfl rfl (fun hg => QEx.fldP 12 rfl uT29 rfl ts3 rfl (.tmp rfl) rfl) rfl (lt_b rfl) ?_
      refine GoT.gr rfl rfl rfl rfl (fun hg => QEx.ldP1 (Body.cells b) (iAV b.AngularDamping) rfl ag3 (.opt (.tmp rfl) hg) rfl) rfl (lt_b rfl) ?_
      refine GoT.g rfl rfl rfl (fun hg => QEx.eqlK rfl (.opt (.tmp rfl) hg) (.opt (.tmp rfl) hg)) rfl (lt_b rfl) ?_
      refine GoT.q rfl (QEx.pickK rfl (.tmp rfl) (fun hp => (.opt (.tmp rfl) (beq_t hp))) (fun hp => .con)) rfl (lt_b rfl) ?_
      refine GoT.q rfl (QEx.move rfl (.tmp rfl)) rfl (lt_b rfl) ?_
      refine GoT.g rfl rfl rfl (fun hg => QEx.fldP 13 rfl uT29 rfl ts3 rfl (.tmp rfl) rfl) rfl (lt_b rfl) ?_
      refine GoT.gr rfl rfl rfl rfl (fun hg => QEx.ldP1 (Body.cells a) (iAV a.GravityScale) rfl ag3 (.opt (.tmp rfl) hg) rfl) rfl (lt_b rfl) ?_
      refine GoT.g rfl rfl rfl (fun hg => QEx.fldP 13 rfl uT29 rfl ts3 rfl (.tmp rfl) rfl) rfl (lt_b rfl) ?_
      refine GoT.gr rfl rfl rfl rfl (fun hg => QEx.ldP1 (Body.cells b) (iAV b.GravityScale) rfl ag3 (.opt (.tmp rfl) hg) rfl) rfl (lt_b rfl) ?_
      refine GoT.g rfl rfl rfl (fun hg => QEx.eqlK rfl (.opt (.tmp rfl) hg) (.opt (.tmp rfl) hg)) rfl (lt_b rfl) ?_
      refine GoT.q rfl (QEx.pickK rfl (.tmp rfl) (fun hp => (.opt (.tmp rfl) (beq_t hp))) (fun hp => .con)) rfl (lt_b rfl) ?_
      refine GoT.q rfl (QEx.eq (QEx.assign rfl (.tmp rfl)) (congrArg boolAV hx10)) rfl (lt_b rfl) ?_
      refine GoT.nil ?_
      refine let_e h fun x11 hx11 h => ?_
      refine Wp.seq ?_
      refine Wp.region ?_
      refine GoT.q rfl (QEx.fldP 14 rfl uT29 rfl ts4 rfl (.tmp rfl) rfl) rfl (lt_b rfl) ?_
      refine GoT.qr rfl rfl (QEx.ldP1 (Body.cells a) (boolAV a.Bullet) rfl ag4 (.tmp rfl) rfl) rfl (lt_b rfl) ?_
      refine GoT.q rfl (QEx.fldP 14 rfl uT29 rfl ts4 rfl (.tmp rfl) rfl) rfl (lt_b rfl) ?_
      refine GoT.qr rfl rfl (QEx.ldP1 (Body.cells b) (boolAV b.Bullet) rfl ag4 (.tmp rfl) rfl) rfl (lt_b rfl) ?_
      refine GoT.q rfl (QEx.eqlB rfl (.tmp rfl) (.tmp rfl) uT4) rfl (lt_b rfl) ?_
      refine GoT.q rfl (QEx.move rfl (.tmp rfl)) rfl (lt_b rfl) ?_
      refine GoT.g rfl rfl rfl (fun hg => QEx.fldP 15 rfl uT29 rfl ts4 rfl (.tmp rfl) rfl) rfl (lt_b rfl) ?_
      refine GoT.gr rfl rfl rfl rfl (fun hg => QEx.ldP1 (Body.cells a) (boolAV a.FixedRotation) rfl ag4 (.opt (.tmp rfl) hg) rfl) rfl (lt_b rfl) ?_
      refine GoT.g rfl rfl rfl (fun hg => QEx.fldP 15 rfl uT29 rfl ts4 rfl (.tmp rfl) rfl) rfl (lt_b rfl) ?_
      refine GoT.gr rfl rfl rfl rfl (fun hg => QEx.ldP1 (Body.cells b) (boolAV b.FixedRotation) rfl ag4 (.opt (.tmp rfl) hg) rfl) rfl (lt_b rfl) ?_
      refine GoT.g rfl rfl rfl (fun hg => QEx.eqlB rfl (.opt (.tmp rfl) hg) (.opt (.tmp rfl) hg) uT4) rfl (lt_b rfl) ?_
      refine GoT.q rfl (QEx.pickK rfl (.tmp rfl) (fun hp => (.opt (.tmp rfl) (beq_t hp))) (fun hp => .con)) rfl (lt_b rfl) ?_
      refine GoT.q rfl (QEx.move rfl (.tmp rfl)) rfl (lt_b rfl) ?_
      refine GoT.g rfl rfl rfl (fun hg => QEx.fldP 16 rfl uT29 rfl ts4 rfl (.tmp rfl) rfl) rfl (lt_b rfl) ?_
      refine GoT.gr rfl rfl rfl rfl (fun hg => QEx.ldP1 (Body.cells a) (boolAV a.NoSleep) rfl ag4 (.opt (.tmp rfl) hg) rfl) rfl (lt_b rfl) ?_
      refine GoT.g rfl rfl rfl (fun hg => QEx.fldP 16 rfl uT29 rfl ts4 rfl (.tmp rfl) rfl) rfl (lt_b rfl) ?_
      refine GoT.gr rfl rfl rfl rfl (fun hg => QEx.ldP1 (Body.cells b) (boolAV b.NoSleep) rfl ag4 (.opt (.tmp rfl) hg) rfl) rfl (lt_b rfl) ?_
      refine GoT.g rfl rfl rfl (fun hg => QEx.eqlB rfl (.opt (.tmp rfl) hg) (.opt (.tmp rfl) hg) uT4) rfl (lt_b rfl) ?_
      refine GoT.q rfl (QEx.pickK rfl (.tmp rfl) (fun hp => (.opt (.tmp rfl) (beq_t hp))) (fun hp => .con)) rfl (lt_b rfl) ?_
      refine GoT.q rfl (QEx.eq (QEx.assign rfl (.tmp rfl)) (congrArg boolAV hx11)) rfl (lt_b rfl) ?_
      refine GoT.nil ?_
      refine let_e h fun x12 hx12 h => ?_
      refine Wp.seq ?_
      refine Wp.region ?_
      refine GoT.q rfl (QEx.fldP 17 rfl uT29 rfl ts4 rfl (.tmp rfl) rfl) rfl (lt_b rfl) ?_
      refine GoT.qr rfl rfl (QEx.ldP1 (Body.cells a) (boolAV a.Asleep) rfl ag4 (.tmp rfl) rfl) rfl (lt_b rfl) ?_
      refine GoT.q rfl (QEx.fldP 17 rfl uT29 rfl ts4 rfl (.tmp rfl) rfl) rfl (lt_b rfl) ?_
      refine GoT.qr rfl rfl (QEx.ldP1 (Body.cells b) (boolAV b.Asleep) rfl ag4 (.tmp rfl) rfl) rfl (lt_b rfl) ?_
      refine GoT.q rfl (QEx.eqlB rfl (.tmp rfl) (.tmp rfl) uT4) rfl (lt_b rfl) ?_
      refine GoT.q rfl (QEx.move rfl (.tmp rfl)) rfl (lt_b rfl) ?_
      refine GoT.g rfl rfl rfl (fun hg => QEx.fldP 18 rfl uT29 rfl ts3 rfl (.tmp rfl) rfl) rfl (lt_b rfl) ?_
      refine GoT.gr rfl rfl rfl rfl (fun hg => QEx.ldP1 (Body.cells a) (iAV a.IdleSteps) rfl ag3 (.opt (.tmp rfl) hg) rfl) rfl (lt_b rfl) ?_
      refine GoT.g rfl rfl rfl (fun hg => QEx.fldP 18 rfl uT29 rfl ts3 rfl (.tmp rfl) rfl) rfl (lt_b rfl) ?_
      refine GoT.gr rfl rfl rfl rfl (fun hg => QEx.ldP1 (Body.cells b) (iAV b.IdleSteps) rfl ag3 (.opt (.tmp rfl) hg) rfl) rfl (lt_b rfl) ?_
      refine GoT.g rfl rfl rfl (fun hg => QEx.eqlK rfl (.opt (.tmp rfl) hg) (.opt (.tmp rfl) hg)) rfl (lt_b rfl) ?_
      refine GoT.q rfl (QEx.pickK rfl (.tmp rfl) (fun hp => (.opt (.tmp rfl) (beq_t hp))) (fun hp => .con)) rfl (lt_b rfl) ?_
      refine GoT.q rfl (QEx.eq (QEx.assign rfl (.tmp rfl)) (congrArg boolAV hx12)) rfl (lt_b rfl) ?_
      refine GoT.nil ?_
      refine let_e h fun x13 hx13 h => ?_
      refine Wp.seq ?_
      refine Wp.region ?_
      refine GoT.q rfl (QEx.move rfl (.tmp rfl)) rfl (lt_b rfl) ?_
      refine GoT.q rfl (QEx.move rfl (.tmp rfl)) rfl (lt_b rfl) ?_
      refine GoT.g rfl rfl rfl (fun hg => QEx.move rfl (.tmp rfl)) rfl (lt_b rfl) ?_
      refine GoT.q rfl (QEx.pickK rfl (.tmp rfl) (fun hp => (.opt (.tmp rfl) (beq_t hp))) (fun hp => .con)) rfl (lt_b rfl) ?_
      refine GoT.q rfl (QEx.move rfl (.tmp rfl)) rfl (lt_b rfl) ?_
      refine GoT.g rfl rfl rfl (fun hg => QEx.move rfl (.tmp rfl)) rfl (lt_b rfl) ?_
      refine GoT.q rfl (QEx.pickK rfl (.tmp rfl) (fun hp => (.opt (.tmp rfl) (beq_t hp))) (fun hp => .con)) rfl (lt_b rfl) ?_
      refine GoT.q rfl (QEx.move rfl (.tmp rfl)) rfl (lt_b rfl) ?_
      refine GoT.g rfl rfl rfl (fun hg => QEx.move rfl (.tmp rfl)) rfl (lt_b rfl) ?_
      refine GoT.q rfl (QEx.pickK rfl (.tmp rfl) (fun hp => (.opt (.tmp rfl) (beq_t hp))) (fun hp => .con)) rfl (lt_b rfl) ?_
      refine GoT.q rfl (QEx.move rfl (.tmp rfl)) rfl (lt_b rfl) ?_
      refine GoT.g rfl rfl rfl (fun hg => QEx.move rfl (.tmp rfl)) rfl (lt_b rfl) ?_
      refine GoT.q rfl (QEx.pickK rfl (.tmp rfl) (fun hp => (.opt (.tmp rfl) (beq_t hp))) (fun hp => .con)) rfl (lt_b rfl) ?_
      refine GoT.q rfl (QEx.move rfl (.tmp rfl)) rfl (lt_b rfl) ?_
      refine GoT.g rfl rfl rfl (fun hg => QEx.move rfl (.tmp rfl)) rfl (lt_b rfl) ?_
      refine GoT.q rfl (QEx.pickK rfl (.tmp rfl) (fun hp => (.opt (.tmp rfl) (beq_t hp))) (fun hp => .con)) rfl (lt_b rfl) ?_
      refine GoT.q rfl (QEx.eq (QEx.assign rfl (.tmp rfl)) (congrArg boolAV hx13)) rfl (lt_b rfl) ?_
      refine GoT.nil ?_
      refine Wp.ret ?_
      cases h
      exact LeafQ.ret [] (by decide) (.cons (.tmp rfl) .nil) rfl
    · refine Wp.seq ?_
      refine Wp.region ?_
      refine GoT.q rfl (QEx.fldP 19 rfl uT29 rfl ts27 rfl (.tmp rfl) rfl) rfl (lt_b rfl) ?_
      refine GoT.qr rfl rfl (QEx.ldP1 (Body.cells a) ((slAV 10 Fixture.av) a.Fixtures) rfl ag27 (.tmp rfl) rfl) rfl (lt_b rfl) ?_
      refine GoT.q rfl (QEx.lenL rfl ⟨_, uT27⟩ (.tmp rfl)) rfl (lt_b rfl) ?_
      refine GoT.q rfl (QEx.as (iAV 0) (QEx.move rfl .con)) rfl (lt_b rfl) ?_
      refine GoT.nil ?_
      refine Wp.block ?_
      refine Wp.loop1 (fun v1 => ⟨[(2, (.ptr 2 0)), (3, (.ptr 3 0)), (21, ((slAV 10 Fixture.av) a.Fixtures)), (22, (iAV ((a.Fixtures).length : Int))), (23, (iAV v1))], [(2, .cells (Body.cells a)), (3, .cells (Body.cells b))], [6]⟩) (fun n v1 => body_Equal_l1 a b (body_Equal_j2 a b) n v1 = some r) fuel 0 [] [] h (LS.to.mk (.r rfl rfl (.r rfl rfl (.b rfl rfl (.b rfl rfl (.b rfl rfl .n))))) (.b rfl rfl rfl (.b rfl rfl rfl .n)) rfl) ?_
      rintro (_ | n2) v1 h
      · exact none_e h
      rw [body_Equal_l1] at h
      refine Wp.seq ?_
      refine Wp.region ?_
      refine GoT.q rfl (QEx.lssK rfl (.tmp rfl) (.tmp rfl)) rfl (lt_b rfl) ?_
      refine GoT.nil ?_
      refine Wp.seq ?_
      refine Wp.condS h rfl (fun h => ?_) (fun h => ?_)
      · refine Wp.skip ?_
        refine Wp.seq ?_
        refine Wp.block ?_
        refine chk_e h fun c2 h => ?_
        refine let_e h fun x3 hx3 h => ?_
        refine Wp.seq ?_
        refine Wp.region ?_
        refine GoT.q rfl (QEx.move rfl (.tmp rfl)) rfl (lt_b rfl) ?_
        refine GoT.q rfl (QEx.as (.cptr (Fixture.cells (ix a.Fixtures v1))) (QEx.idxL (E := Fixture.av) rfl et27 (.tmp rfl) (.tmp rfl) c2)) rfl (lt_b rfl) ?_
        refine GoT.q rfl (QEx.ldC (x := (Fixture.av (ix a.Fixtures v1))) rfl ag35 ts35 (.tmp rfl) (.inl ⟨rfl, rfl, rfl⟩)) rfl (lt_b rfl) ?_
        refine GoT.a rfl (AEx.alZ rfl zt35 rfl rfl) rfl (lt_b rfl) ?_
        refine GoT.q rfl (QEx.assign rfl (.tmp rfl)) rfl (lt_b rfl) ?_
        refine GoT.s rfl (AEx.sto (Z := (Fixture.cells x3)) rfl rfl ts35 (.tmp rfl) rfl (.tmp rfl) rfl rfl (le_b rfl) (congrArg (fun (x : Fixture) => (Fixture.cells x)) hx3)) rfl ?_
        refine GoT.nil ?_
        refine chk_e h fun c4 h => ?_
        refine bind_e h fun r5 hr5 h => ?_
        refine Wp.seq ?_
        refine Wp.drawn2 (n0 := 8) [] mixed ?_
        refine GoD.qr rfl rfl (QEx.ldP (Fixture.cells x3) (Fixture.av x3) rfl ag35 ts35 (.tmp rfl) (le_b rfl) rfl) rfl (lt_b rfl) ?_
        refine GoD.q rfl (QEx.fldP 19 rfl uT29 rfl ts27 rfl (.tmp rfl) rfl) rfl (lt_b rfl) ?_
        refine GoD.qr rfl rfl (QEx.ldP1 (Body.cells b) ((slAV 10 Fixture.av) b.Fixtures) rfl ag27 (.tmp rfl) rfl) rfl (lt_b rfl) ?_
        refine GoD.q rfl (QEx.move rfl (.tmp rfl)) rfl (lt_b rfl) ?_
        refine GoD.q rfl (QEx.as (.cptr (Fixture.cells (ix b.Fixtures v1))) (QEx.idxL (E := Fixture.av) rfl et27 (.tmp rfl) (.tmp rfl) c4)) rfl (lt_b rfl) ?_
        refine GoD.q rfl (QEx.ldC (x := (Fixture.av (ix b.Fixtures v1))) rfl ag35 ts35 (.tmp rfl) (.inl ⟨rfl, rfl, rfl⟩)) rfl (lt_b rfl) ?_
        refine GoD.q rfl (QEx.cal0 (r := (boolAV r5)) [(Fixture.av x3), (Fixture.av (ix b.Fixtures v1))] rfl Tryz.call72 (.cons (.tmp rfl) (.cons (.tmp rfl) .nil)) (body_equalFixtures_ok hr5) rfl rfl) rfl (lt_b rfl) ?_
        refine GoD.q rfl (QEx.notK rfl (.tmp rfl)) rfl (lt_b rfl) ?_
        refine GoD.nil ⟨by kernel_rfl, by kernel_rfl, by kernel_rfl, by kernel_rfl, by kernel_rfl, ?_⟩
        refine GoT.nil ?_
        refine Wp.condS h rfl (fun h => ?_) (fun h => ?_)
        · refine Wp.seq ?_
          refine Wp.region ?_
          refine GoT.q rfl (QEx.as (boolAV false) (QEx.assign rfl .con)) rfl (lt_b rfl) ?_
          refine GoT.nil ?_
          refine Wp.ret ?_
          cases h
          exact LeafQ.ret [] (by decide) (.cons (.tmp rfl) .nil) rfl
        · refine Wp.skip ?_
          refine let_e h fun x6 hx6 h => ?_
          refine Wp.region ?_
          refine GoT.q rfl (QEx.addK rfl (.tmp rfl) .con) rfl (lt_b rfl) ?_
          refine GoT.q rfl (QEx.eq (QEx.move rfl (.tmp rfl)) (congrArg iAV hx6)) rfl (lt_b rfl) ?_
          refine GoT.nil ?_
          exact Round1.mk x6 [6] [] h (LS.to.mk (.r rfl rfl (.r rfl rfl (.b rfl rfl (.b rfl rfl (.b rfl rfl .n))))) (.b rfl rfl rfl (.b rfl rfl rfl .n)) rfl)
      · refine Wp.exit ?_
        exact Joined0.mk [] [] h (LS.to.mk (.r rfl rfl (.r rfl rfl .n)) (.b rfl rfl rfl (.b rfl rfl rfl .n)) rfl)
theorem law23_example_ok {r : Bool} (h : law23_example = some r) : FnR Tryz.prog 7 [] (boolAV r) := by
  refine FnR.intro' (fn := Tryz.f7) (N := 75) Tryz.func7 rfl rfl (Nat.le_of_ble_eq_true rfl) [1, 2, 3] ?_
  refine Wp.seq ?_
  refine Wp.region ?_
  refine GoT.q rfl (QEx.as (boolAV false) (QEx.assign rfl .con)) rfl (lt_b rfl) ?_
  refine GoT.nil ?_
  refine let_e h fun r1 hr1 h => ?_
  refine let_e h fun x2 hx2 h => ?_
  refine Wp.seq ?_
  refine Wp.region ?_
  refine GoT.q rfl (QEx.cal0 (r := (Body.av r1)) [(iAV 5)] rfl Tryz.call31 (.cons .con .nil) (law23_disk_ok hr1) rfl rfl) rfl (lt_b rfl) ?_
  refine GoT.a rfl (AEx.alZ rfl zt29 rfl rfl) rfl (lt_b rfl) ?_
  refine GoT.s rfl (AEx.sto (Z := (Body.cells x2)) rfl rfl ts29 (.tmp rfl) rfl (.tmp rfl) rfl rfl (le_b rfl) (congrArg (fun (x : Body) => (Body.cells x)) hx2)) rfl ?_
  refine GoT.nil ?_
  refine bind_e h fun r3 hr3 h => ?_
  refine bind_e h fun r4 hr4 h => ?_
  refine let_e h fun x5 hx5 h => ?_
  refine Wp.seq ?_
  refine Wp.drawn2 (n0 := 7) [3] mixed ?_
  refine GoD.qr rfl rfl (QEx.ldP (Body.cells x2) (Body.av x2) rfl ag29 ts29 (.tmp rfl) (le_b rfl) rfl) rfl (lt_b rfl) ?_
  refine GoD.qr rfl rfl (QEx.ldP (Body.cells x2) (Body.av x2) rfl ag29 ts29 (.tmp rfl) (le_b rfl) rfl) rfl (lt_b rfl) ?_
  refine GoD.q rfl (QEx.cal0 (r := (Vec.av r3)) [(Body.av x2)] rfl Tryz.call16 (.cons (.tmp rfl) .nil) (body_WorldCenter_ok hr3) rfl rfl) rfl (lt_b rfl) ?_
  refine GoD.q rfl (QEx.as (Vec.av (⟨205888, 0⟩ : Vec)) (QEx.buildZ rfl uT24 zt24 (by kernel_rfl) (.cons rfl .con rfl rfl (le_b rfl) .nil))) rfl (lt_b rfl) ?_
  refine GoD.q rfl (QEx.cal0 (r := (Body.av r4)) [(Body.av x2), (Vec.av r3), (Vec.av (⟨205888, 0⟩ : Vec))] rfl Tryz.call25 (.cons (.tmp rfl) (.cons (.tmp rfl) (.cons (.tmp rfl) .nil))) (body_ApplyImpulse_ok hr4) rfl rfl) rfl (lt_b rfl) ?_
  refine GoD.al rfl rfl zt29 rfl (lt_b rfl) ?_
  refine GoD.s rfl (Z := (Body.cells x5)) rfl rfl ts29 (.tmp rfl) rfl (.tmp rfl) rfl rfl (le_b rfl) (congrArg (fun (x : Body) => (Body.cells x)) hx5) ?_
  refine GoD.nil ⟨by kernel_rfl, by kernel_rfl, by kernel_rfl, by kernel_rfl, by kernel_rfl, ?_⟩
  refine GoT.nil ?_
  refine bind_e h fun r6 hr6 h => ?_
  refine let_e h fun x7 hx7 h => ?_
  refine Wp.seq ?_
  refine Wp.region ?_
  refine GoT.qr rfl rfl (QEx.ldP (Body.cells x2) (Body.av x2) rfl ag29 ts29 (.tmp rfl) (le_b rfl) rfl) rfl (lt_b rfl) ?_
  refine GoT.q rfl (QEx.cal0 (r := (.tup [(AABB.av r6.1), (boolAV r6.2)])) [(Body.av x2)] rfl Tryz.call12 (.cons (.tmp rfl) .nil) (body_Bounds_ok hr6) rfl rfl) rfl (lt_b rfl) ?_
  refine GoT.q rfl (QEx.move rfl (.tmp rfl)) rfl (lt_b rfl) ?_
  refine GoT.q rfl (QEx.extract rfl (.tmp rfl) rfl) rfl (lt_b rfl) ?_
  refine GoT.q rfl (QEx.extract rfl (.tmp rfl) rfl) rfl (lt_b rfl) ?_
  refine GoT.a rfl (AEx.alZ rfl zt45 rfl rfl) rfl (lt_b rfl) ?_
  refine GoT.s rfl (AEx.sto (Z := (AABB.cells x7)) rfl rfl ts45 (.tmp rfl) rfl (.tmp rfl) rfl rfl (le_b rfl) (congrArg (fun (x : AABB) => (AABB.cells x)) hx7)) rfl ?_
  refine GoT.q rfl (QEx.assign rfl (.tmp rfl)) rfl (lt_b rfl) ?_
  refine GoT.nil ?_
  refine bind_e h fun r8 hr8 h => ?_
  refine bind_e h fun r9 hr9 h => ?_
  refine let_e h fun x10 hx10 h => ?_
  refine bind_e h fun r11 hr11 h => ?_
  refine bind_e h fun r12 hr12 h => ?_
  refine bind_e h fun r13 hr13 h => ?_
  refine bind_e h fun r14 hr14 h => ?_
  refine let_e h fun x15 hx15 h => ?_
  refine Wp.seq ?_
  refine Wp.drawn2 (n0 := 60) [] mixed ?_
  refine GoD.qr rfl rfl (QEx.ldP (Body.cells x2) (Body.av x2) rfl ag29 ts29 (.tmp rfl) (le_b rfl) rfl) rfl (lt_b rfl) ?_
  refine GoD.q rfl (QEx.cal0 (r := (iAV r8)) [(Body.av x2)] rfl Tryz.call8 (.cons (.tmp rfl) .nil) (body_Validate_ok hr8) rfl rfl) rfl (lt_b rfl) ?_
  refine GoD.q rfl (QEx.eqlK rfl (.tmp rfl) .con) rfl (lt_b rfl) ?_
  refine GoD.q rfl (QEx.move rfl (.tmp rfl)) rfl (lt_b rfl) ?_
  refine GoD.gr rfl rfl rfl rfl (fun hg => QEx.ldP (Body.cells x2) (Body.av x2) rfl ag29 ts29 (.tmp rfl) (le_b rfl) rfl) rfl (lt_b rfl) ?_
  refine GoD.g rfl rfl rfl (fun hg => QEx.cal0 (r := (Vec.av r9)) [(Body.av x2)] rfl Tryz.call16 (.cons (.opt (.tmp rfl) hg) .nil) (body_WorldCenter_ok (gcall hr9 hg)) rfl rfl) rfl (lt_b rfl) ?_
  refine GoD.g rfl rfl rfl (fun hg => QEx.as (Vec.av (⟨5, 0⟩ : Vec)) (QEx.buildZ rfl uT24 zt24 (by kernel_rfl) (.cons rfl .con rfl rfl (le_b rfl) .nil))) rfl (lt_b rfl) ?_
  refine GoD.g rfl rfl rfl (fun hg => QEx.eqlA rfl eq24 (.opt (.tmp rfl) hg) (.opt (.tmp rfl) hg)) rfl (lt_b rfl) ?_
  refine GoD.q rfl (QEx.pickK rfl (.tmp rfl) (fun hp => (.opt (.tmp rfl) (beq_t hp))) (fun hp => .con)) rfl (lt_b rfl) ?_
  refine GoD.q rfl (QEx.move rfl (.tmp rfl)) rfl (lt_b rfl) ?_
  refine GoD.g rfl rfl rfl (fun hg => QEx.fldP 5 rfl uT29 rfl ts24 rfl (.tmp rfl) rfl) rfl (lt_b rfl) ?_
  refine GoD.g rfl rfl rfl (fun hg => QEx.fldP 5 rfl uT24 rfl ts3 rfl (.opt (.tmp rfl) hg) rfl) rfl (lt_b rfl) ?_
  refine GoD.gr rfl rfl rfl rfl (fun hg => QEx.ldP1 (Body.cells x5) (iAV x5.Velocity.X) rfl ag3 (.opt (.tmp rfl) hg) rfl) rfl (lt_b rfl) ?_
  refine GoD.g rfl rfl rfl (fun hg => QEx.gtrK rfl (.opt (.tmp rfl) hg) .con) rfl (lt_b rfl) ?_
  refine GoD.q rfl (QEx.pickK rfl (.tmp rfl) (fun hp => (.opt (.tmp rfl) (beq_t hp))) (fun hp => .con)) rfl (lt_b rfl) ?_
  refine GoD.q rfl (QEx.move rfl (.tmp rfl)) rfl (lt_b rfl) ?_
  refine GoD.g rfl rfl rfl (fun hg => QEx.fldP 5 rfl uT29 rfl ts24 rfl (.tmp rfl) rfl) rfl (lt_b rfl) ?_
  refine GoD.g rfl rfl rfl (fun hg => QEx.fldP 5 rfl uT24 rfl ts3 rfl (.opt (.tmp rfl) hg) rfl) rfl (lt_b rfl) ?_
  refine GoD.gr rfl rfl rfl rfl (fun hg => QEx.ldP1 (Body.cells x5) (iAV x5.Velocity.X) rfl ag3 (.opt (.tmp rfl) hg) rfl) rfl (lt_b rfl) ?_
  refine GoD.g rfl rfl rfl (fun hg => QEx.lssK rfl (.opt (.tmp rfl) hg) .con) rfl (lt_b rfl) ?_
  refine GoD.q rfl (QEx.pickK rfl (.tmp rfl) (fun hp => (.opt (.tmp rfl) (beq_t hp))) (fun hp => .con)) rfl (lt_b rfl) ?_
  refine GoD.q rfl (QEx.move rfl (.tmp rfl)) rfl (lt_b rfl) ?_
  refine GoD.g rfl rfl rfl (fun hg => QEx.fldP 5 rfl uT29 rfl ts24 rfl (.tmp rfl) rfl) rfl (lt_b rfl) ?_
  refine GoD.g rfl rfl rfl (fun hg => QEx.fldP 6 rfl uT24 rfl ts3 rfl (.opt (.tmp rfl) hg) rfl) rfl (lt_b rfl) ?_
  refine GoD.gr rfl rfl rfl rfl (fun hg => QEx.ldP1 (Body.cells x5) (iAV x5.Velocity.Y) rfl ag3 (.opt (.tmp rfl) hg) rfl) rfl (lt_b rfl) ?_
  refine GoD.g rfl rfl rfl (fun hg => QEx.eqlK rfl (.opt (.tmp rfl) hg) .con) rfl (lt_b rfl) ?_
  refine GoD.q rfl (QEx.pickK rfl (.tmp rfl) (fun hp => (.opt (.tmp rfl) (beq_t hp))) (fun hp => .con)) rfl (lt_b rfl) ?_
  refine GoD.q rfl (QEx.move rfl (.tmp rfl)) rfl (lt_b rfl) ?_
  refine GoD.g rfl rfl rfl (fun hg => QEx.fldP 7 rfl uT29 rfl ts3 rfl (.tmp rfl) rfl) rfl (lt_b rfl) ?_
  refine GoD.gr rfl rfl rfl rfl (fun hg => QEx.ldP1 (Body.cells x5) (iAV x5.AngularVelocity) rfl ag3 (.opt (.tmp rfl) hg) rfl) rfl (lt_b rfl) ?_
  refine GoD.g rfl rfl rfl (fun hg => QEx.eqlK rfl (.opt (.tmp rfl) hg) .con) rfl (lt_b rfl) ?_
  refine GoD.q rfl (QEx.pickK rfl (.tmp rfl) (fun hp => (.opt (.tmp rfl) (beq_t hp))) (fun hp => .con)) rfl (lt_b rfl) ?_
  refine GoD.q rfl (QEx.move rfl (.tmp rfl)) rfl (lt_b rfl) ?_
  refine GoD.g rfl rfl rfl (fun hg => QEx.move rfl (.tmp rfl)) rfl (lt_b rfl) ?_
  refine GoD.q rfl (QEx.pickK rfl (.tmp rfl) (fun hp => (.opt (.tmp rfl) (beq_t hp))) (fun hp => .con)) rfl (lt_b rfl) ?_
  refine GoD.q rfl (QEx.move rfl (.tmp rfl)) rfl (lt_b rfl) ?_
  refine GoD.gr rfl rfl rfl rfl (fun hg => QEx.ldP (AABB.cells x7) (AABB.av x7) rfl ag45 ts45 (.tmp rfl) (le_b rfl) rfl) rfl (lt_b rfl) ?_
  refine GoD.g rfl rfl rfl (fun hg => QEx.as (Vec.av (⟨(-65531), (-65536)⟩ : Vec)) (QEx.buildZ rfl uT24 zt24 (by kernel_rfl) (.cons rfl .con rfl rfl (le_b rfl) (.cons rfl .con rfl rfl (le_b rfl) .nil)))) rfl (lt_b rfl) ?_
  refine GoD.g rfl rfl rfl (fun hg => QEx.as (Vec.av (⟨65541, 65536⟩ : Vec)) (QEx.buildZ rfl uT24 zt24 (by kernel_rfl) (.cons rfl .con rfl rfl (le_b rfl) (.cons rfl .con rfl rfl (le_b rfl) .nil)))) rfl (lt_b rfl) ?_
  refine GoD.g rfl rfl rfl (fun hg => QEx.as (AABB.av (⟨(⟨(-65531), (-65536)⟩ : Vec), (⟨65541, 65536⟩ : Vec)⟩ : AABB)) (QEx.buildZ rfl uT45 zt45 (by kernel_rfl) (.cons rfl (.opt (.tmp rfl) hg) rfl rfl (le_b rfl) (.cons rfl (.opt (.tmp rfl) hg) rfl rfl (le_b rfl) .nil)))) rfl (lt_b rfl) ?_
  refine GoD.g rfl rfl rfl (fun hg => QEx.eq (QEx.eqlA rfl eq45 (.opt (.tmp rfl) hg) (.opt (.tmp rfl) hg)) (congrArg boolAV hx10)) rfl (lt_b rfl) ?_
  refine GoD.q rfl (QEx.pickK rfl (.tmp rfl) (fun hp => (.opt (.tmp rfl) (beq_t hp))) (fun hp => .con)) rfl (lt_b rfl) ?_
  refine GoD.q rfl (QEx.move rfl (.tmp rfl)) rfl (lt_b rfl) ?_
  refine GoD.gr rfl rfl rfl rfl (fun hg => QEx.ldP (Body.cells x2) (Body.av x2) rfl ag29 ts29 (.tmp rfl) (le_b rfl) rfl) rfl (lt_b rfl) ?_
  refine GoD.g rfl rfl rfl (fun hg => QEx.as (Vec.av (⟨5, 0⟩ : Vec)) (QEx.buildZ rfl uT24 zt24 (by kernel_rfl) (.cons rfl .con rfl rfl (le_b rfl) .nil))) rfl (lt_b rfl) ?_
  refine GoD.g rfl rfl rfl (fun hg => QEx.cal0 (r := (iAV r11)) [(Body.av x2), (Vec.av (⟨5, 0⟩ : Vec))] rfl Tryz.call22 (.cons (.opt (.tmp rfl) hg) (.cons (.opt (.tmp rfl) hg) .nil)) (body_FixtureAt_ok (gcall hr11 hg)) rfl rfl) rfl (lt_b rfl) ?_
  refine GoD.g rfl rfl rfl (fun hg => QEx.eqlK rfl (.opt (.tmp rfl) hg) .con) rfl (lt_b rfl) ?_
  refine GoD.q rfl (QEx.pickK rfl (.tmp rfl) (fun hp => (.opt (.tmp rfl) (beq_t hp))) (fun hp => .con)) rfl (lt_b rfl) ?_
  refine GoD.q rfl (QEx.move rfl (.tmp rfl)) rfl (lt_b rfl) ?_
  refine GoD.gr rfl rfl rfl rfl (fun hg => QEx.ldP (Body.cells x2) (Body.av x2) rfl ag29 ts29 (.tmp rfl) (le_b rfl) rfl) rfl (lt_b rfl) ?_
  refine GoD.gr rfl rfl rfl rfl (fun hg => QEx.ldP (Body.cells x2) (Body.av x2) rfl ag29 ts29 (.tmp rfl) (le_b rfl) rfl) rfl (lt_b rfl) ?_
  refine GoD.g rfl rfl rfl (fun hg => QEx.cal0 (r := (Body.av r12)) [(Body.av x2)] rfl Tryz.call33 (.cons (.opt (.tmp rfl) hg) .nil) (body_Clone_ok (gcall hr12 hg)) rfl rfl) rfl (lt_b rfl) ?_
  refine GoD.g rfl rfl rfl (fun hg => QEx.cal0 (r := (boolAV r13)) [(Body.av x2), (Body.av r12)] rfl Tryz.call32 (.cons (.opt (.tmp rfl) hg) (.cons (.opt (.tmp rfl) hg) .nil)) (body_Equal_ok (gcall hr13 hg)) rfl rfl) rfl (lt_b rfl) ?_
  refine GoD.q rfl (QEx.pickK rfl (.tmp rfl) (fun hp => (.opt (.tmp rfl) (beq_t hp))) (fun hp => .con)) rfl (lt_b rfl) ?_
  refine GoD.q rfl (QEx.move rfl (.tmp rfl)) rfl (lt_b rfl) ?_
  refine GoD.g rfl rfl rfl (fun hg => QEx.as (Body.av (⟨0, 0, Transform.zero, Vec.zero, 0, Vec.zero, 0, 0, 0, 0, false, false, false, false, 0, []⟩ : Body)) (QEx.buildZ rfl uT29 zt29 (by kernel_rfl) .nil)) rfl (lt_b rfl) ?_
  refine GoD.g rfl rfl rfl (fun hg => QEx.cal0 (r := (iAV r14)) [(Body.av (⟨0, 0, Transform.zero, Vec.zero, 0, Vec.zero, 0, 0, 0, 0, false, false, false, false, 0, []⟩ : Body))] rfl Tryz.call8 (.cons (.opt (.tmp rfl) hg) .nil) (body_Validate_ok (gcall hr14 hg)) rfl rfl) rfl (lt_b rfl) ?_
  refine GoD.g rfl rfl rfl (fun hg => QEx.eqlK rfl (.opt (.tmp rfl) hg) .con) rfl (lt_b rfl) ?_
  refine GoD.q rfl (QEx.pickK rfl (.tmp rfl) (fun hp => (.opt (.tmp rfl) (beq_t hp))) (fun hp => .con)) rfl (lt_b rfl) ?_
  refine GoD.q rfl (QEx.eq (QEx.assign rfl (.tmp rfl)) (congrArg boolAV hx15)) rfl (lt_b rfl) ?_
  refine GoD.nil ⟨by kernel_rfl, by kernel_rfl, by kernel_rfl, by kernel_rfl, by kernel_rfl, ?_⟩
  refine GoT.nil ?_
  refine Wp.ret ?_
  cases h
  exact LeafQ.ret [] (by decide) (.cons (.tmp rfl) .nil) rfl
theorem ref12_countMatches_ok {s : Shape} {r : Bool} (h : ref12_countMatches s = r) : FnR Tryz.prog 86 [(Shape.av s)] (boolAV r) := by
  refine FnR.intro' (fn := Tryz.f86) (N := 20) Tryz.func86 rfl rfl (Nat.le_of_ble_eq_true rfl) [1] ?_
  refine Wp.seq ?_
  refine Wp.region ?_
  refine GoT.a rfl (AEx.bx (Z := (Shape.cells s)) rfl (.tmp rfl) rfl rfl rfl rfl) rfl (lt_b rfl) ?_
  refine GoT.q rfl (QEx.as (boolAV false) (QEx.assign rfl .con)) rfl (lt_b rfl) ?_
  refine GoT.nil ?_
  refine Wp.seq ?_
  refine Wp.region ?_
  refine GoT.q rfl (QEx.fldP 2 rfl uT33 rfl ts31 rfl (.tmp rfl) rfl) rfl (lt_b rfl) ?_
  refine GoT.qr rfl rfl (QEx.ldP1 (Shape.cells s) ((slAV 2 Vec.av) s.Vertices) rfl ag31 (.tmp rfl) rfl) rfl (lt_b rfl) ?_
  refine GoT.q rfl (QEx.lenL rfl ⟨_, uT31⟩ (.tmp rfl)) rfl (lt_b rfl) ?_
  refine GoT.q rfl (QEx.assign rfl (.tmp rfl)) rfl (lt_b rfl) ?_
  refine GoT.nil ?_
  refine Wp.seq ?_
  refine Wp.seq ?_
  refine Wp.region ?_
  refine GoT.q rfl (QEx.fldP 0 rfl uT33 rfl ts30 rfl (.tmp rfl) rfl) rfl (lt_b rfl) ?_
  refine GoT.qr rfl rfl (QEx.ldP1 (Shape.cells s) (iAV s.Kind) rfl ag30 (.tmp rfl) rfl) rfl (lt_b rfl) ?_
  refine GoT.q rfl (QEx.eqlK rfl (.tmp rfl) .con) rfl (lt_b rfl) ?_
  refine GoT.nil ?_
  refine Wp.condS h rfl (fun h => ?_) (fun h => ?_)
  · refine let_e h fun x1 hx1 h => ?_
    refine Wp.seq ?_
    refine Wp.region ?_
    refine GoT.q rfl (QEx.move rfl (.tmp rfl)) rfl (lt_b rfl) ?_
    refine GoT.q rfl (QEx.geqK rfl (.tmp rfl) .con) rfl (lt_b rfl) ?_
    refine GoT.q rfl (QEx.move rfl (.tmp rfl)) rfl (lt_b rfl) ?_
    refine GoT.g rfl rfl rfl (fun hg => QEx.move rfl (.tmp rfl)) rfl (lt_b rfl) ?_
    refine GoT.g rfl rfl rfl (fun hg => QEx.leqK rfl (.opt (.tmp rfl) hg) .con) rfl (lt_b rfl) ?_
    refine GoT.q rfl (QEx.pickK rfl (.tmp rfl) (fun hp => (.opt (.tmp rfl) (beq_t hp))) (fun hp => .con)) rfl (lt_b rfl) ?_
    refine GoT.q rfl (QEx.eq (QEx.assign rfl (.tmp rfl)) (congrArg boolAV hx1)) rfl (lt_b rfl) ?_
    refine GoT.nil ?_
    refine Wp.ret ?_
    cases h
    exact LeafQ.ret [] (by decide) (.cons (.tmp rfl) .nil) rfl
  · refine Wp.skip ?_
    refine let_e h fun x2 hx2 h => ?_
    refine Wp.seq ?_
    refine Wp.region ?_
    refine GoT.q rfl (QEx.move rfl (.tmp rfl)) rfl (lt_b rfl) ?_
    refine GoT.q rfl (QEx.fldP 0 rfl uT33 rfl ts30 rfl (.tmp rfl) rfl) rfl (lt_b rfl) ?_
    refine GoT.qr rfl rfl (QEx.ldP1 (Shape.cells s) (iAV s.Kind) rfl ag30 (.tmp rfl) rfl) rfl (lt_b rfl) ?_
    refine GoT.q rfl (QEx.eqlK rfl (.tmp rfl) (.tmp rfl)) rfl (lt_b rfl) ?_
    refine GoT.q rfl (QEx.eq (QEx.assign rfl (.tmp rfl)) (congrArg boolAV hx2)) rfl (lt_b rfl) ?_
    refine GoT.nil ?_
    refine Wp.ret ?_
    cases h
    exact LeafQ.ret [] (by decide) (.cons (.tmp rfl) .nil) rfl
theorem ref12_within_ok {x_0 : Int} {m : Int} {r : Bool} (h : ref12_within x_0 m = r) : FnR Tryz.prog 87 [(iAV x_0), (iAV m)] (boolAV r) := by
  refine FnR.intro' (fn := Tryz.f87) (N := 14) Tryz.func87 rfl rfl (Nat.le_of_ble_eq_true rfl) [] ?_
  refine Wp.seq ?_
  refine Wp.region ?_
  refine GoT.q rfl (QEx.as (boolAV false) (QEx.assign rfl .con)) rfl (lt_b rfl) ?_
  refine GoT.nil ?_
  refine let_e h fun x1 hx1 h => ?_
  refine Wp.seq ?_
  refine Wp.region ?_
  refine GoT.q rfl (QEx.move rfl (.tmp rfl)) rfl (lt_b rfl) ?_
  refine GoT.q rfl (QEx.move rfl (.tmp rfl)) rfl (lt_b rfl) ?_
  refine GoT.q rfl (QEx.negK rfl (.tmp rfl)) rfl (lt_b rfl) ?_
  refine GoT.q rfl (QEx.geqK rfl (.tmp rfl) (.tmp rfl)) rfl (lt_b rfl) ?_
  refine GoT.q rfl (QEx.move rfl (.tmp rfl)) rfl (lt_b rfl) ?_
  refine GoT.g rfl rfl rfl (fun hg => QEx.move rfl (.tmp rfl)) rfl (lt_b rfl) ?_
  refine GoT.g rfl rfl rfl (fun hg => QEx.move rfl (.tmp rfl)) rfl (lt_b rfl) ?_
  refine GoT.g rfl rfl rfl (fun hg => QEx.leqK rfl (.opt (.tmp rfl) hg) (.opt (.tmp rfl) hg)) rfl (lt_b rfl) ?_
  refine GoT.q rfl (QEx.pickK rfl (.tmp rfl) (fun hp => (.opt (.tmp rfl) (beq_t hp))) (fun hp => .con)) rfl (lt_b rfl) ?_
  refine GoT.q rfl (QEx.eq (QEx.assign rfl (.tmp rfl)) (congrArg boolAV hx1)) rfl (lt_b rfl) ?_
  refine GoT.nil ?_
  refine Wp.ret ?_
  cases h
  exact LeafQ.ret [] (by decide) (.cons (.tmp rfl) .nil) rfl
theorem ref01_Saturate_ok {x_0 : Int} {r : Int} (h : ref01_Saturate x_0 = r) : FnR Tryz.prog 121 [(iAV x_0)] (iAV r) := by
  refine FnR.intro' (fn := Tryz.f121) (N := 8) Tryz.func121 rfl rfl (Nat.le_of_ble_eq_true rfl) [] ?_
  refine Wp.seq ?_
  refine Wp.region ?_
  refine GoT.q rfl (QEx.as (iAV 0) (QEx.assign rfl .con)) rfl (lt_b rfl) ?_
  refine GoT.nil ?_
  refine Wp.seq ?_
  refine Wp.seq ?_
  refine Wp.region ?_
  refine GoT.q rfl (QEx.move rfl (.tmp rfl)) rfl (lt_b rfl) ?_
  refine GoT.q rfl (QEx.gtrK rfl (.tmp rfl) .con) rfl (lt_b rfl) ?_
  refine GoT.nil ?_
  refine Wp.condS h rfl (fun h => ?_) (fun h => ?_)
  · refine Wp.seq ?_
    refine Wp.region ?_
    refine GoT.q rfl (QEx.as (iAV 536870911) (QEx.assign rfl .con)) rfl (lt_b rfl) ?_
    refine GoT.nil ?_
    refine Wp.ret ?_
    cases h
    exact LeafQ.ret [] (by decide) (.cons (.tmp rfl) .nil) rfl
  · refine Wp.skip ?_
    refine Wp.seq ?_
    refine Wp.seq ?_
    refine Wp.region ?_
    refine GoT.q rfl (QEx.move rfl (.tmp rfl)) rfl (lt_b rfl) ?_
    refine GoT.q rfl (QEx.lssK rfl (.tmp rfl) .con) rfl (lt_b rfl) ?_
    refine GoT.nil ?_
    refine Wp.condS h rfl (fun h => ?_) (fun h => ?_)
    · refine Wp.seq ?_
      refine Wp.region ?_
      refine GoT.q rfl (QEx.as (iAV (-536870911)) (QEx.assign rfl .con)) rfl (lt_b rfl) ?_
      refine GoT.nil ?_
      refine Wp.ret ?_
      cases h
      exact LeafQ.ret [] (by decide) (.cons (.tmp rfl) .nil) rfl
    · refine Wp.skip ?_
      refine Wp.seq ?_
      refine Wp.region ?_
      refine GoT.q rfl (QEx.move rfl (.tmp rfl)) rfl (lt_b rfl) ?_
      refine GoT.q rfl (QEx.assign rfl (.tmp rfl)) rfl (lt_b rfl) ?_
      refine GoT.nil ?_
      refine Wp.ret ?_
      cases h
      exact LeafQ.ret [] (by decide) (.cons (.tmp rfl) .nil) rfl
theorem ref01_Sub_ok {a : Int} {b : Int} {r : Int} (h : ref01_Sub a b = r) : FnR Tryz.prog 98 [(iAV a), (iAV b)] (iAV r) := by
  refine FnR.intro' (fn := Tryz.f98) (N := 11) Tryz.func98 rfl rfl (Nat.le_of_ble_eq_true rfl) [] ?_
  refine Wp.seq ?_
  refine Wp.region ?_
  refine GoT.q rfl (QEx.as (iAV 0) (QEx.assign rfl .con)) rfl (lt_b rfl) ?_
  refine GoT.nil ?_
  refine let_e h fun r1 hr1 h => ?_
  refine let_e h fun r2 hr2 h => ?_
  refine let_e h fun r3 hr3 h => ?_
  refine Wp.seq ?_
  refine Wp.region ?_
  refine GoT.q rfl (QEx.move rfl (.tmp rfl)) rfl (lt_b rfl) ?_
  refine GoT.q rfl (QEx.cal0 (r := (iAV r1)) [(iAV a)] rfl Tryz.call121 (.cons (.tmp rfl) .nil) (ref01_Saturate_ok hr1) rfl rfl) rfl (lt_b rfl) ?_
  refine GoT.q rfl (QEx.move rfl (.tmp rfl)) rfl (lt_b rfl) ?_
  refine GoT.q rfl (QEx.cal0 (r := (iAV r2)) [(iAV b)] rfl Tryz.call121 (.cons (.tmp rfl) .nil) (ref01_Saturate_ok hr2) rfl rfl) rfl (lt_b rfl) ?_
  refine GoT.q rfl (QEx.subK rfl (.tmp rfl) (.tmp rfl)) rfl (lt_b rfl) ?_
  refine GoT.q rfl (QEx.cal0 (r := (iAV r3)) [(iAV (w64 (r1 - r2)))] rfl Tryz.call121 (.cons (.tmp rfl) .nil) (ref01_Saturate_ok hr3) rfl rfl) rfl (lt_b rfl) ?_
  refine GoT.q rfl (QEx.assign rfl (.tmp rfl)) rfl (lt_b rfl) ?_
  refine GoT.nil ?_
  refine Wp.ret ?_
  cases h
  exact LeafQ.ret [] (by decide) (.cons (.tmp rfl) .nil) rfl
theorem ref03_Sub_ok {a : Vec} {b : Vec} {r : Vec} (h : ref03_Sub a b = r) : FnR Tryz.prog 56 [(Vec.av a), (Vec.av b)] (Vec.av r) := by
  refine FnR.intro' (fn := Tryz.f56) (N := 16) Tryz.func56 rfl rfl (Nat.le_of_ble_eq_true rfl) [2, 3, 4] ?_
  refine Wp.seq ?_
  refine Wp.region ?_
  refine GoT.a rfl (AEx.bx (Z := (Vec.cells a)) rfl (.tmp rfl) rfl rfl rfl rfl) rfl (lt_b rfl) ?_
  refine GoT.a rfl (AEx.bx (Z := (Vec.cells b)) rfl (.tmp rfl) rfl rfl rfl rfl) rfl (lt_b rfl) ?_
  refine GoT.a rfl (AEx.alZ rfl zt24 rfl rfl) rfl (lt_b rfl) ?_
  refine GoT.nil ?_
  refine let_e h fun r1 hr1 h => ?_
  refine let_e h fun r2 hr2 h => ?_
  refine let_e h fun x3 hx3 h => ?_
  refine Wp.seq ?_
  refine Wp.drawn2 (n0 := 12) [] mixed ?_
  refine GoD.q rfl (QEx.fldP 0 rfl uT24 rfl ts3 rfl (.tmp rfl) rfl) rfl (lt_b rfl) ?_
  refine GoD.qr rfl rfl (QEx.ldP1 (Vec.cells a) (iAV a.X) rfl ag3 (.tmp rfl) rfl) rfl (lt_b rfl) ?_
  refine GoD.q rfl (QEx.fldP 0 rfl uT24 rfl ts3 rfl (.tmp rfl) rfl) rfl (lt_b rfl) ?_
  refine GoD.qr rfl rfl (QEx.ldP1 (Vec.cells b) (iAV b.X) rfl ag3 (.tmp rfl) rfl) rfl (lt_b rfl) ?_
  refine GoD.q rfl (QEx.cal0 (r := (iAV r1)) [(iAV a.X), (iAV b.X)] rfl Tryz.call98 (.cons (.tmp rfl) (.cons (.tmp rfl) .nil)) (ref01_Sub_ok hr1) rfl rfl) rfl (lt_b rfl) ?_
  refine GoD.q rfl (QEx.fldP 1 rfl uT24 rfl ts3 rfl (.tmp rfl) rfl) rfl (lt_b rfl) ?_
  refine GoD.qr rfl rfl (QEx.ldP1 (Vec.cells a) (iAV a.Y) rfl ag3 (.tmp rfl) rfl) rfl (lt_b rfl) ?_
  refine GoD.q rfl (QEx.fldP 1 rfl uT24 rfl ts3 rfl (.tmp rfl) rfl) rfl (lt_b rfl) ?_
  refine GoD.qr rfl rfl (QEx.ldP1 (Vec.cells b) (iAV b.Y) rfl ag3 (.tmp rfl) rfl) rfl (lt_b rfl) ?_
  refine GoD.q rfl (QEx.cal0 (r := (iAV r2)) [(iAV a.Y), (iAV b.Y)] rfl Tryz.call98 (.cons (.tmp rfl) (.cons (.tmp rfl) .nil)) (ref01_Sub_ok hr2) rfl rfl) rfl (lt_b rfl) ?_
  refine GoD.q rfl (QEx.as (Vec.av (⟨r1, r2⟩ : Vec)) (QEx.buildZ rfl uT24 zt24 (by kernel_rfl) (.cons rfl (.tmp rfl) rfl rfl (le_b rfl) (.cons rfl (.tmp rfl) rfl rfl (le_b rfl) .nil)))) rfl (lt_b rfl) ?_
  refine GoD.s rfl (Z := (Vec.cells x3)) rfl rfl ts24 (.tmp rfl) rfl (.tmp rfl) rfl rfl (le_b rfl) (congrArg (fun (x : Vec) => (Vec.cells x)) hx3) ?_
  refine GoD.nil ⟨by kernel_rfl, by kernel_rfl, by kernel_rfl, by kernel_rfl, by kernel_rfl, ?_⟩
  refine GoT.nil ?_
  refine Wp.ret ?_
  cases h
  exact LeafQ.ret [] (by decide) (.cons (.agg rfl rfl ag24 ts24) .nil) rfl
theorem ref03_Saturated_ok {v_0 : Vec} {r : Vec} (h : ref03_Saturated v_0 = r) : FnR Tryz.prog 123 [(Vec.av v_0)] (Vec.av r) := by
  refine FnR.intro' (fn := Tryz.f123) (N := 10) Tryz.func123 rfl rfl (Nat.le_of_ble_eq_true rfl) [1, 2] ?_
  refine Wp.seq ?_
  refine Wp.region ?_
  refine GoT.a rfl (AEx.bx (Z := (Vec.cells v_0)) rfl (.tmp rfl) rfl rfl rfl rfl) rfl (lt_b rfl) ?_
  refine GoT.a rfl (AEx.alZ rfl zt24 rfl rfl) rfl (lt_b rfl) ?_
  refine GoT.nil ?_
  refine let_e h fun r1 hr1 h => ?_
  refine let_e h fun r2 hr2 h => ?_
  refine let_e h fun x3 hx3 h => ?_
  refine Wp.seq ?_
  refine Wp.drawn2 (n0 := 8) [] mixed ?_
  refine GoD.q rfl (QEx.fldP 0 rfl uT24 rfl ts3 rfl (.tmp rfl) rfl) rfl (lt_b rfl) ?_
  refine GoD.qr rfl rfl (QEx.ldP1 (Vec.cells v_0) (iAV v_0.X) rfl ag3 (.tmp rfl) rfl) rfl (lt_b rfl) ?_
  refine GoD.q rfl (QEx.cal0 (r := (iAV r1)) [(iAV v_0.X)] rfl Tryz.call121 (.cons (.tmp rfl) .nil) (ref01_Saturate_ok hr1) rfl rfl) rfl (lt_b rfl) ?_
  refine GoD.q rfl (QEx.fldP 1 rfl uT24 rfl ts3 rfl (.tmp rfl) rfl) rfl (lt_b rfl) ?_
  refine GoD.qr rfl rfl (QEx.ldP1 (Vec.cells v_0) (iAV v_0.Y) rfl ag3 (.tmp rfl) rfl) rfl (lt_b rfl) ?_
  refine GoD.q rfl (QEx.cal0 (r := (iAV r2)) [(iAV v_0.Y)] rfl Tryz.call121 (.cons (.tmp rfl) .nil) (ref01_Saturate_ok hr2) rfl rfl) rfl (lt_b rfl) ?_
  refine GoD.q rfl (QEx.as (Vec.av (⟨r1, r2⟩ : Vec)) (QEx.buildZ rfl uT24 zt24 (by kernel_rfl) (.cons rfl (.tmp rfl) rfl rfl (le_b rfl) (.cons rfl (.tmp rfl) rfl rfl (le_b rfl) .nil)))) rfl (lt_b rfl) ?_
  refine GoD.s rfl (Z := (Vec.cells x3)) rfl rfl ts24 (.tmp rfl) rfl (.tmp rfl) rfl rfl (le_b rfl) (congrArg (fun (x : Vec) => (Vec.cells x)) hx3) ?_
  refine GoD.nil ⟨by kernel_rfl, by kernel_rfl, by kernel_rfl, by kernel_rfl, by kernel_rfl, ?_⟩
  refine GoT.nil ?_
  refine Wp.ret ?_
  cases h
  exact LeafQ.ret [] (by decide) (.cons (.agg rfl rfl ag24 ts24) .nil) rfl
theorem ref01_outOfRange_ok {n_0 : Int} {r : Bool} (h : ref01_outOfRange n_0 = r) : FnR Tryz.prog 159 [(iAV n_0)] (boolAV r) := by
  refine FnR.intro' (fn := Tryz.f159) (N := 9) Tryz.func159 rfl rfl (Nat.le_of_ble_eq_true rfl) [] ?_
  refine Wp.seq ?_
  refine Wp.region ?_
  refine GoT.q rfl (QEx.as (boolAV false) (QEx.assign rfl .con)) rfl (lt_b rfl) ?_
  refine GoT.nil ?_
  refine let_e h fun x1 hx1 h => ?_
  refine Wp.seq ?_
  refine Wp.region ?_
  refine GoT.q rfl (QEx.move rfl (.tmp rfl)) rfl (lt_b rfl) ?_
  refine GoT.q rfl (QEx.gtrK rfl (.tmp rfl) .con) rfl (lt_b rfl) ?_
  refine GoT.q rfl (QEx.move rfl (.tmp rfl)) rfl (lt_b rfl) ?_
  refine GoT.g rfl rfl rfl (fun hg => QEx.move rfl (.tmp rfl)) rfl (lt_b rfl) ?_
  refine GoT.g rfl rfl rfl (fun hg => QEx.lssK rfl (.opt (.tmp rfl) hg) .con) rfl (lt_b rfl) ?_
  refine GoT.q rfl (QEx.pickK rfl (.tmp rfl) (fun hp => .con) (fun hp => (.opt (.tmp rfl) (beq_f hp)))) rfl (lt_b rfl) ?_
  refine GoT.q rfl (QEx.eq (QEx.assign rfl (.tmp rfl)) (congrArg boolAV hx1)) rfl (lt_b rfl) ?_
  refine GoT.nil ?_
  refine Wp.ret ?_
  cases h
  exact LeafQ.ret [] (by decide) (.cons (.tmp rfl) .nil) rfl
theorem ref01_Isqrt_ok {n_0 : Int} {r : Int} (h : ref01_Isqrt n_0 = some r) : FnR Tryz.prog 133 [(iAV n_0)] (iAV r) := by
  refine FnR.intro' (fn := Tryz.f133) (N := 28) Tryz.func133 rfl rfl (Nat.le_of_ble_eq_true rfl) [] ?_
  refine Wp.seq ?_
  refine Wp.region ?_
  refine GoT.q rfl (QEx.as (iAV 0) (QEx.assign rfl .con)) rfl (lt_b rfl) ?_
  refine GoT.nil ?_
  refine Wp.seq ?_
  refine let_e h fun r1 hr1 h => ?_
  refine Wp.seq ?_
  refine Wp.region ?_
  refine GoT.q rfl (QEx.move rfl (.tmp rfl)) rfl (lt_b rfl) ?_
  refine GoT.q rfl (QEx.lssK rfl (.tmp rfl) .con) rfl (lt_b rfl) ?_
  refine GoT.q rfl (QEx.move rfl (.tmp rfl)) rfl (lt_b rfl) ?_
  refine GoT.g rfl rfl rfl (fun hg => QEx.move rfl (.tmp rfl)) rfl (lt_b rfl) ?_
  refine GoT.g rfl rfl rfl (fun hg => QEx.cal0 (r := (boolAV r1)) [(iAV n_0)] rfl Tryz.call159 (.cons (.opt (.tmp rfl) hg) .nil) (ref01_outOfRange_ok hr1) rfl rfl) rfl (lt_b rfl) ?_
  refine GoT.q rfl (QEx.pickK rfl (.tmp rfl) (fun hp => .con) (fun hp => (.opt (.tmp rfl) (beq_f hp)))) rfl (lt_b rfl) ?_
  refine GoT.nil ?_
  refine Wp.condS h rfl (fun h => ?_) (fun h => ?_)
  · refine Wp.seq ?_
    refine Wp.region ?_
    refine GoT.q rfl (QEx.as (iAV 0) (QEx.assign rfl .con)) rfl (lt_b rfl) ?_
    refine GoT.nil ?_
    refine Wp.ret ?_
    cases h
    exact LeafQ.ret [] (by decide) (.cons (.tmp rfl) .nil) rfl
  · refine Wp.skip ?_
    refine Wp.seq ?_
    refine Wp.region ?_
    refine GoT.q rfl (QEx.as (iAV 0) (QEx.assign rfl .con)) rfl (lt_b rfl) ?_
    refine GoT.nil ?_
    refine Wp.join1 (fun v2 => ⟨[(3, (iAV v2))], [], []⟩) (fun v2 => ref01_Isqrt_j3 v2 = some r) ?_ ?_
    · intro v2 h
      refine Wp.seq ?_
      refine Wp.region ?_
      refine GoT.q rfl (QEx.move rfl (.tmp rfl)) rfl (lt_b rfl) ?_
      refine GoT.q rfl (QEx.assign rfl (.tmp rfl)) rfl (lt_b rfl) ?_
      refine GoT.nil ?_
      refine Wp.ret ?_
      cases h
      exact LeafQ.ret [] (by decide) (.cons (.tmp rfl) .nil) rfl
    · refine Wp.seq ?_
      refine Wp.region ?_
      refine GoT.q rfl (QEx.as (iAV 2147483648) (QEx.assign rfl .con)) rfl (lt_b rfl) ?_
      refine GoT.nil ?_
      refine Wp.block ?_
      refine Wp.loop2 (fun v3 v4 => ⟨[(0, (iAV n_0)), (3, (iAV v3)), (4, (iAV v4))], [], []⟩) (fun n v3 v4 => ref01_Isqrt_l2 n_0 ref01_Isqrt_j3 n v3 v4 = some r) fuel 0 2147483648 [] [] h (LS.to.mk (.b rfl rfl (.b rfl rfl (.b rfl rfl .n))) .n rfl) ?_
      rintro (_ | n2) v3 v4 h
      · exact none_e h
      rw [ref01_Isqrt_l2] at h
      refine Wp.seq ?_
      refine Wp.seq ?_
      refine Wp.region ?_
      refine GoT.q rfl (QEx.move rfl (.tmp rfl)) rfl (lt_b rfl) ?_
      refine GoT.q rfl (QEx.gtrK rfl (.tmp rfl) .con) rfl (lt_b rfl) ?_
      refine GoT.nil ?_
      refine Wp.condS h rfl (fun h => ?_) (fun h => ?_)
      · refine Wp.skip ?_
        refine Wp.join1 (fun v5 => ⟨[(0, (iAV n_0)), (3, (iAV v5)), (4, (iAV v4))], [], []⟩) (fun v5 => (ref01_Isqrt_j1 v4 (ref01_Isqrt_l2 n_0 ref01_Isqrt_j3 n2)) v5 = some r) ?_ ?_
        · intro v5 h
          refine let_e h fun x9 hx9 h => ?_
          refine Wp.region ?_
          refine GoT.q rfl (QEx.move rfl (.tmp rfl)) rfl (lt_b rfl) ?_
          refine GoT.q rfl (QEx.quoK rfl (.tmp rfl) .con (by decide)) rfl (lt_b rfl) ?_
          refine GoT.q rfl (QEx.eq (QEx.assign rfl (.tmp rfl)) (congrArg iAV hx9)) rfl (lt_b rfl) ?_
          refine GoT.nil ?_
          exact Round2.mk v5 x9 [] [] h (LS.to.mk (.b rfl rfl (.b rfl rfl (.b rfl rfl .n))) .n rfl)
        · refine Wp.block ?_
          refine chk_e h fun c6 h => ?_
          refine let_e h fun x7 hx7 h => ?_
          refine Wp.seq ?_
          refine Wp.region ?_
          refine GoT.q rfl (QEx.move rfl (.tmp rfl)) rfl (lt_b rfl) ?_
          refine GoT.q rfl (QEx.move rfl (.tmp rfl)) rfl (lt_b rfl) ?_
          refine GoT.q rfl (QEx.addK rfl (.tmp rfl) (.tmp rfl)) rfl (lt_b rfl) ?_
          refine GoT.q rfl (QEx.move rfl (.tmp rfl)) rfl (lt_b rfl) ?_
          refine GoT.q rfl (QEx.move rfl (.tmp rfl)) rfl (lt_b rfl) ?_
          refine GoT.q rfl (QEx.move rfl (.tmp rfl)) rfl (lt_b rfl) ?_
          refine GoT.q rfl (QEx.addK rfl (.tmp rfl) (.tmp rfl)) rfl (lt_b rfl) ?_
          refine GoT.q rfl (QEx.quoK rfl (.tmp rfl) (.tmp rfl) c6) rfl (lt_b rfl) ?_
          refine GoT.q rfl (QEx.eq (QEx.leqK rfl (.tmp rfl) (.tmp rfl)) (congrArg boolAV hx7)) rfl (lt_b rfl) ?_
          refine GoT.nil ?_
          refine Wp.condS h rfl (fun h => ?_) (fun h => ?_)
          · refine let_e h fun x8 hx8 h => ?_
            refine Wp.region ?_
            refine GoT.q rfl (QEx.move rfl (.tmp rfl)) rfl (lt_b rfl) ?_
            refine GoT.q rfl (QEx.move rfl (.tmp rfl)) rfl (lt_b rfl) ?_
            refine GoT.q rfl (QEx.addK rfl (.tmp rfl) (.tmp rfl)) rfl (lt_b rfl) ?_
            refine GoT.q rfl (QEx.eq (QEx.assign rfl (.tmp rfl)) (congrArg iAV hx8)) rfl (lt_b rfl) ?_
            refine GoT.nil ?_
            exact Joined1.mk x8 [] [] h (LS.to.mk (.b rfl rfl (.b rfl rfl (.b rfl rfl .n))) .n rfl)
          · refine Wp.skip ?_
            exact Joined1.mk v3 [] [] h (LS.to.mk (.b rfl rfl (.b rfl rfl (.b rfl rfl .n))) .n rfl)
      · refine Wp.exit ?_
        exact Joined1.mk v3 [] [] h (LS.to.mk (.b rfl rfl .n) .n rfl)
theorem ref03_Length_ok {v_0 : Vec} {r : Int} (h : ref03_Length v_0 = some r) : FnR Tryz.prog 88 [(Vec.av v_0)] (iAV r) := by
  refine FnR.intro' (fn := Tryz.f88) (N := 17) Tryz.func88 rfl rfl (Nat.le_of_ble_eq_true rfl) [1] ?_
  refine Wp.seq ?_
  refine Wp.region ?_
  refine GoT.a rfl (AEx.bx (Z := (Vec.cells v_0)) rfl (.tmp rfl) rfl rfl rfl rfl) rfl (lt_b rfl) ?_
  refine GoT.q rfl (QEx.as (iAV 0) (QEx.assign rfl .con)) rfl (lt_b rfl) ?_
  refine GoT.nil ?_
  refine let_e h fun r1 hr1 h => ?_
  refine let_e h fun x2 hx2 h => ?_
  refine Wp.seq ?_
  refine Wp.region ?_
  refine GoT.qr rfl rfl (QEx.ldP (Vec.cells v_0) (Vec.av v_0) rfl ag24 ts24 (.tmp rfl) (le_b rfl) rfl) rfl (lt_b rfl) ?_
  refine GoT.q rfl (QEx.cal0 (r := (Vec.av r1)) [(Vec.av v_0)] rfl Tryz.call123 (.cons (.tmp rfl) .nil) (ref03_Saturated_ok hr1) rfl rfl) rfl (lt_b rfl) ?_
  refine GoT.s rfl (AEx.sto (Z := (Vec.cells x2)) rfl rfl ts24 (.tmp rfl) rfl (.tmp rfl) rfl rfl (le_b rfl) (congrArg (fun (x : Vec) => (Vec.cells x)) hx2)) rfl ?_
  refine GoT.nil ?_
  refine bind_e h fun r3 hr3 h => ?_
  refine Wp.seq ?_
  refine Wp.region ?_
  refine GoT.q rfl (QEx.fldP 0 rfl uT24 rfl ts3 rfl (.tmp rfl) rfl) rfl (lt_b rfl) ?_
  refine GoT.qr rfl rfl (QEx.ldP1 (Vec.cells x2) (iAV x2.X) rfl ag3 (.tmp rfl) rfl) rfl (lt_b rfl) ?_
  refine GoT.q rfl (QEx.fldP 0 rfl uT24 rfl ts3 rfl (.tmp rfl) rfl) rfl (lt_b rfl) ?_
  refine GoT.qr rfl rfl (QEx.ldP1 (Vec.cells x2) (iAV x2.X) rfl ag3 (.tmp rfl) rfl) rfl (lt_b rfl) ?_
  refine GoT.q rfl (QEx.mulK rfl (.tmp rfl) (.tmp rfl)) rfl (lt_b rfl) ?_
  refine GoT.q rfl (QEx.fldP 1 rfl uT24 rfl ts3 rfl (.tmp rfl) rfl) rfl (lt_b rfl) ?_
  refine GoT.qr rfl rfl (QEx.ldP1 (Vec.cells x2) (iAV x2.Y) rfl ag3 (.tmp rfl) rfl) rfl (lt_b rfl) ?_
  refine GoT.q rfl (QEx.fldP 1 rfl uT24 rfl ts3 rfl (.tmp rfl) rfl) rfl (lt_b rfl) ?_
  refine GoT.qr rfl rfl (QEx.ldP1 (Vec.cells x2) (iAV x2.Y) rfl ag3 (.tmp rfl) rfl) rfl (lt_b rfl) ?_
  refine GoT.q rfl (QEx.mulK rfl (.tmp rfl) (.tmp rfl)) rfl (lt_b rfl) ?_
  refine GoT.q rfl (QEx.addK rfl (.tmp rfl) (.tmp rfl)) rfl (lt_b rfl) ?_
  refine GoT.q rfl (QEx.cal0 (r := (iAV r3)) [(iAV (w64 ((w64 (x2.X * x2.X)) + (w64 (x2.Y * x2.Y)))))] rfl Tryz.call133 (.cons (.tmp rfl) .nil) (ref01_Isqrt_ok hr3) rfl rfl) rfl (lt_b rfl) ?_
  refine GoT.q rfl (QEx.assign rfl (.tmp rfl)) rfl (lt_b rfl) ?_
  refine GoT.nil ?_
  refine Wp.ret ?_
  cases h
  exact LeafQ.ret [] (by decide) (.cons (.tmp rfl) .nil) rfl
theorem ref11_inRange_ok {v_0 : Vec} {r : Bool} (h : ref11_inRange v_0 = r) : FnR Tryz.prog 134 [(Vec.av v_0)] (boolAV r) := by
  refine FnR.intro' (fn := Tryz.f134) (N := 21) Tryz.func134 rfl rfl (Nat.le_of_ble_eq_true rfl) [1] ?_
  refine Wp.seq ?_
  refine Wp.region ?_
  refine GoT.a rfl (AEx.bx (Z := (Vec.cells v_0)) rfl (.tmp rfl) rfl rfl rfl rfl) rfl (lt_b rfl) ?_
  refine GoT.q rfl (QEx.as (boolAV false) (QEx.assign rfl .con)) rfl (lt_b rfl) ?_
  refine GoT.nil ?_
  refine let_e h fun x1 hx1 h => ?_
  refine Wp.seq ?_
  refine Wp.region ?_
  refine GoT.q rfl (QEx.fldP 0 rfl uT24 rfl ts3 rfl (.tmp rfl) rfl) rfl (lt_b rfl) ?_
  refine GoT.qr rfl rfl (QEx.ldP1 (Vec.cells v_0) (iAV v_0.X) rfl ag3 (.tmp rfl) rfl) rfl (lt_b rfl) ?_
  refine GoT.q rfl (QEx.geqK rfl (.tmp rfl) .con) rfl (lt_b rfl) ?_
  refine GoT.q rfl (QEx.move rfl (.tmp rfl)) rfl (lt_b rfl) ?_
  refine GoT.g rfl rfl rfl (fun hg => QEx.fldP 0 rfl uT24 rfl ts3 rfl (.tmp rfl) rfl) rfl (lt_b rfl) ?_
  refine GoT.gr rfl rfl rfl rfl (fun hg => QEx.ldP1 (Vec.cells v_0) (iAV v_0.X) rfl ag3 (.opt (.tmp rfl) hg) rfl) rfl (lt_b rfl) ?_
  refine GoT.g rfl rfl rfl (fun hg => QEx.leqK rfl (.opt (.tmp rfl) hg) .con) rfl (lt_b rfl) ?_
  refine GoT.q rfl (QEx.pickK rfl (.tmp rfl) (fun hp => (.opt (.tmp rfl) (beq_t hp))) (fun hp => .con)) rfl (lt_b rfl) ?_
  refine GoT.q rfl (QEx.move rfl (.tmp rfl)) rfl (lt_b rfl) ?_
  refine GoT.g rfl rfl rfl (fun hg => QEx.fldP 1 rfl uT24 rfl ts3 rfl (.tmp rfl) rfl) rfl (lt_b rfl) ?_
  refine GoT.gr rfl rfl rfl rfl (fun hg => QEx.ldP1 (Vec.cells v_0) (iAV v_0.Y) rfl ag3 (.opt (.tmp rfl) hg) rfl) rfl (lt_b rfl) ?_
  refine GoT.g rfl rfl rfl (fun hg => QEx.geqK rfl (.opt (.tmp rfl) hg) .con) rfl (lt_b rfl) ?_
  refine GoT.q rfl (QEx.pickK rfl (.tmp rfl) (fun hp => (.opt (.tmp rfl) (beq_t hp))) (fun hp => .con)) rfl (lt_b rfl) ?_
  refine GoT.q rfl (QEx.move rfl (.tmp rfl)) rfl (lt_b rfl) ?_
  refine GoT.g rfl rfl rfl (fun hg => QEx.fldP 1 rfl uT24 rfl ts3 rfl (.tmp rfl) rfl) rfl (lt_b rfl) ?_
  refine GoT.gr rfl rfl rfl rfl (fun hg => QEx.ldP1 (Vec.cells v_0) (iAV v_0.Y) rfl ag3 (.opt (.tmp rfl) hg) rfl) rfl (lt_b rfl) ?_
  refine GoT.g rfl rfl rfl (fun hg => QEx.leqK rfl (.opt (.tmp rfl) hg) .con) rfl (lt_b rfl) ?_
  refine GoT.q rfl (QEx.pickK rfl (.tmp rfl) (fun hp => (.opt (.tmp rfl) (beq_t hp))) (fun hp => .con)) rfl (lt_b rfl) ?_
  refine GoT.q rfl (QEx.eq (QEx.assign rfl (.tmp rfl)) (congrArg boolAV hx1)) rfl (lt_b rfl) ?_
  refine GoT.nil ?_
  refine Wp.ret ?_
  cases h
  exact LeafQ.ret [] (by decide) (.cons (.tmp rfl) .nil) rfl
theorem ref03_Orientation_ok {a : Vec} {b : Vec} {c_2 : Vec} {r : Int} (h : ref03_Orientation a b c_2 = r) : FnR Tryz.prog 115 [(Vec.av a), (Vec.av b), (Vec.av c_2)] (iAV r) := by
  refine FnR.intro' (fn := Tryz.f115) (N := 41) Tryz.func115 rfl rfl (Nat.le_of_ble_eq_true rfl) [3, 4, 5] ?_
  refine Wp.seq ?_
  refine Wp.region ?_
  refine GoT.a rfl (AEx.bx (Z := (Vec.cells a)) rfl (.tmp rfl) rfl rfl rfl rfl) rfl (lt_b rfl) ?_
  refine GoT.a rfl (AEx.bx (Z := (Vec.cells b)) rfl (.tmp rfl) rfl rfl rfl rfl) rfl (lt_b rfl) ?_
  refine GoT.a rfl (AEx.bx (Z := (Vec.cells c_2)) rfl (.tmp rfl) rfl rfl rfl rfl) rfl (lt_b rfl) ?_
  refine GoT.q rfl (QEx.as (iAV 0) (QEx.assign rfl .con)) rfl (lt_b rfl) ?_
  refine GoT.nil ?_
  refine let_e h fun r1 hr1 h => ?_
  refine let_e h fun x2 hx2 h => ?_
  refine Wp.seq ?_
  refine Wp.region ?_
  refine GoT.qr rfl rfl (QEx.ldP (Vec.cells a) (Vec.av a) rfl ag24 ts24 (.tmp rfl) (le_b rfl) rfl) rfl (lt_b rfl) ?_
  refine GoT.q rfl (QEx.cal0 (r := (Vec.av r1)) [(Vec.av a)] rfl Tryz.call123 (.cons (.tmp rfl) .nil) (ref03_Saturated_ok hr1) rfl rfl) rfl (lt_b rfl) ?_
  refine GoT.s rfl (AEx.sto (Z := (Vec.cells x2)) rfl rfl ts24 (.tmp rfl) rfl (.tmp rfl) rfl rfl (le_b rfl) (congrArg (fun (x : Vec) => (Vec.cells x)) hx2)) rfl ?_
  refine GoT.nil ?_
  refine let_e h fun r3 hr3 h => ?_
  refine let_e h fun x4 hx4 h => ?_
  refine Wp.seq ?_
  refine Wp.region ?_
  refine GoT.qr rfl rfl (QEx.ldP (Vec.cells b) (Vec.av b) rfl ag24 ts24 (.tmp rfl) (le_b rfl) rfl) rfl (lt_b rfl) ?_
  refine GoT.q rfl (QEx.cal0 (r := (Vec.av r3)) [(Vec.av b)] rfl Tryz.call123 (.cons (.tmp rfl) .nil) (ref03_Saturated_ok hr3) rfl rfl) rfl (lt_b rfl) ?_
  refine GoT.s rfl (AEx.sto (Z := (Vec.cells x4)) rfl rfl ts24 (.tmp rfl) rfl (.tmp rfl) rfl rfl (le_b rfl) (congrArg (fun (x : Vec) => (Vec.cells x)) hx4)) rfl ?_
  refine GoT.nil ?_
  refine let_e h fun r5 hr5 h => ?_
  refine let_e h fun x6 hx6 h => ?_
  refine Wp.seq ?_
  refine Wp.region ?_
  refine GoT.qr rfl rfl (QEx.ldP (Vec.cells c_2) (Vec.av c_2) rfl ag24 ts24 (.tmp rfl) (le_b rfl) rfl) rfl (lt_b rfl) ?_
  refine GoT.q rfl (QEx.cal0 (r := (Vec.av r5)) [(Vec.av c_2)] rfl Tryz.call123 (.cons (.tmp rfl) .nil) (ref03_Saturated_ok hr5) rfl rfl) rfl (lt_b rfl) ?_
  refine GoT.s rfl (AEx.sto (Z := (Vec.cells x6)) rfl rfl ts24 (.tmp rfl) rfl (.tmp rfl) rfl rfl (le_b rfl) (congrArg (fun (x : Vec) => (Vec.cells x)) hx6)) rfl ?_
  refine GoT.nil ?_
  refine let_e h fun x7 hx7 h => ?_
  refine Wp.seq ?_
  refine Wp.region ?_
  refine GoT.q rfl (QEx.fldP 0 rfl uT24 rfl ts3 rfl (.tmp rfl) rfl) rfl (lt_b rfl) ?_
  refine GoT.qr rfl rfl (QEx.ldP1 (Vec.cells x4) (iAV x4.X) rfl ag3 (.tmp rfl) rfl) rfl (lt_b rfl) ?_
  refine GoT.q rfl (QEx.fldP 0 rfl uT24 rfl ts3 rfl (.tmp rfl) rfl) rfl (lt_b rfl) ?_
  refine GoT.qr rfl rfl (QEx.ldP1 (Vec.cells x2) (iAV x2.X) rfl ag3 (.tmp rfl) rfl) rfl (lt_b rfl) ?_
  refine GoT.q rfl (QEx.subK rfl (.tmp rfl) (.tmp rfl)) rfl (lt_b rfl) ?_
  refine GoT.q rfl (QEx.fldP 1 rfl uT24 rfl ts3 rfl (.tmp rfl) rfl) rfl (lt_b rfl) ?_
  refine GoT.qr rfl rfl (QEx.ldP1 (Vec.cells x6) (iAV x6.Y) rfl ag3 (.tmp rfl) rfl) rfl (lt_b rfl) ?_
  refine GoT.q rfl (QEx.fldP 1 rfl uT24 rfl ts3 rfl (.tmp rfl) rfl) rfl (lt_b rfl) ?_
  refine GoT.qr rfl rfl (QEx.ldP1 (Vec.cells x2) (iAV x2.Y) rfl ag3 (.tmp rfl) rfl) rfl (lt_b rfl) ?_
  refine GoT.q rfl (QEx.subK rfl (.tmp rfl) (.tmp rfl)) rfl (lt_b rfl) ?_
  refine GoT.q rfl (QEx.mulK rfl (.tmp rfl) (.tmp rfl)) rfl (lt_b rfl) ?_
  refine GoT.q rfl (QEx.fldP 1 rfl uT24 rfl ts3 rfl (.tmp rfl) rfl) rfl (lt_b rfl) ?_
  refine GoT.qr rfl rfl (QEx.ldP1 (Vec.cells x4) (iAV x4.Y) rfl ag3 (.tmp rfl) rfl) rfl (lt_b rfl) ?_
  refine GoT.q rfl (QEx.fldP 1 rfl uT24 rfl ts3 rfl (.tmp rfl) rfl) rfl (lt_b rfl) ?_
  refine GoT.qr rfl rfl (QEx.ldP1 (Vec.cells x2) (iAV x2.Y) rfl ag3 (.tmp rfl) rfl) rfl (lt_b rfl) ?_
  refine GoT.q rfl (QEx.subK rfl (.tmp rfl) (.tmp rfl)) rfl (lt_b rfl) ?_
  refine GoT.q rfl (QEx.fldP 0 rfl uT24 rfl ts3 rfl (.tmp rfl) rfl) rfl (lt_b rfl) ?_
  refine GoT.qr rfl rfl (QEx.ldP1 (Vec.cells x6) (iAV x6.X) rfl ag3 (.tmp rfl) rfl) rfl (lt_b rfl) ?_
  refine GoT.q rfl (QEx.fldP 0 rfl uT24 rfl ts3 rfl (.tmp rfl) rfl) rfl (lt_b rfl) ?_
  refine GoT.qr rfl rfl (QEx.ldP1 (Vec.cells x2) (iAV x2.X) rfl ag3 (.tmp rfl) rfl) rfl (lt_b rfl) ?_
  refine GoT.q rfl (QEx.subK rfl (.tmp rfl) (.tmp rfl)) rfl (lt_b rfl) ?_
  refine GoT.q rfl (QEx.mulK rfl (.tmp rfl) (.tmp rfl)) rfl (lt_b rfl) ?_
  refine GoT.q rfl (QEx.eq (QEx.subK rfl (.tmp rfl) (.tmp rfl)) (congrArg iAV hx7)) rfl (lt_b rfl) ?_
  refine GoT.q rfl (QEx.assign rfl (.tmp rfl)) rfl (lt_b rfl) ?_
  refine GoT.nil ?_
  refine Wp.seq ?_
  refine Wp.seq ?_
  refine Wp.region ?_
  refine GoT.q rfl (QEx.move rfl (.tmp rfl)) rfl (lt_b rfl) ?_
  refine GoT.q rfl (QEx.gtrK rfl (.tmp rfl) .con) rfl (lt_b rfl) ?_
  refine GoT.nil ?_
  refine Wp.condS h rfl (fun h => ?_) (fun h => ?_)
  · refine Wp.seq ?_
    refine Wp.region ?_
    refine GoT.q rfl (QEx.as (iAV 1) (QEx.assign rfl .con)) rfl (lt_b rfl) ?_
    refine GoT.nil ?_
    refine Wp.ret ?_
    cases h
    exact LeafQ.ret [] (by decide) (.cons (.tmp rfl) .nil) rfl
  · refine Wp.skip ?_
    refine Wp.seq ?_
    refine Wp.seq ?_
    refine Wp.region ?_
    refine GoT.q rfl (QEx.move rfl (.tmp rfl)) rfl (lt_b rfl) ?_
    refine GoT.q rfl (QEx.lssK rfl (.tmp rfl) .con) rfl (lt_b rfl) ?_
    refine GoT.nil ?_
    refine Wp.condS h rfl (fun h => ?_) (fun h => ?_)
    · refine Wp.seq ?_
      refine Wp.region ?_
      refine GoT.q rfl (QEx.as (iAV (-1)) (QEx.assign rfl .con)) rfl (lt_b rfl) ?_
      refine GoT.nil ?_
      refine Wp.ret ?_
      cases h
      exact LeafQ.ret [] (by decide) (.cons (.tmp rfl) .nil) rfl
    · refine Wp.skip ?_
      refine Wp.seq ?_
      refine Wp.region ?_
      refine GoT.q rfl (QEx.as (iAV 0) (QEx.assign rfl .con)) rfl (lt_b rfl) ?_
      refine GoT.nil ?_
      refine Wp.ret ?_
      cases h
      exact LeafQ.ret [] (by decide) (.cons (.tmp rfl) .nil) rfl
theorem ref11_IsConvex_ok {vertices : List Vec} {r : Bool} (h : ref11_IsConvex vertices = some r) : FnR Tryz.prog 89 [((slAV 2 Vec.av) vertices)] (boolAV r) := by
  refine FnR.intro' (fn := Tryz.f89) (N := 65) Tryz.func89 rfl rfl (Nat.le_of_ble_eq_true rfl) [8, 21, 50, 54, 58] ?_
  refine Wp.seq ?_
  refine Wp.region ?_
  refine GoT.q rfl (QEx.as (boolAV false) (QEx.assign rfl .con)) rfl (lt_b rfl) ?_
  refine GoT.nil ?_
  refine Wp.seq ?_
  refine Wp.region ?_
  refine GoT.q rfl (QEx.move rfl (.tmp rfl)) rfl (lt_b rfl) ?_
  refine GoT.q rfl (QEx.lenL rfl ⟨_, uT31⟩ (.tmp rfl)) rfl (lt_b rfl) ?_
  refine GoT.q rfl (QEx.assign rfl (.tmp rfl)) rfl (lt_b rfl) ?_
  refine GoT.nil ?_
  refine Wp.seq ?_
  refine Wp.seq ?_
  refine Wp.region ?_
  refine GoT.q rfl (QEx.move rfl (.tmp rfl)) rfl (lt_b rfl) ?_
  refine GoT.q rfl (QEx.lssK rfl (.tmp rfl) .con) rfl (lt_b rfl) ?_
  refine GoT.q rfl (QEx.move rfl (.tmp rfl)) rfl (lt_b rfl) ?_
  refine GoT.g rfl rfl rfl (fun hg => QEx.move rfl (.tmp rfl)) rfl (lt_b rfl) ?_
  refine GoT.g rfl rfl rfl (fun hg => QEx.gtrK rfl (.opt (.tmp rfl) hg) .con) rfl (lt_b rfl) ?_
  refine GoT.q rfl (QEx.pickK rfl (.tmp rfl) (fun hp => .con) (fun hp => (.opt (.tmp rfl) (beq_f hp)))) rfl (lt_b rfl) ?_
  refine GoT.nil ?_
  refine Wp.condS h rfl (fun h => ?_) (fun h => ?_)
  · refine Wp.seq ?_
    refine Wp.region ?_
    refine GoT.q rfl (QEx.as (boolAV false) (QEx.assign rfl .con)) rfl (lt_b rfl) ?_
    refine GoT.nil ?_
    refine Wp.ret ?_
    cases h
    exact LeafQ.ret [] (by decide) (.cons (.tmp rfl) .nil) rfl
  · refine Wp.skip ?_
    refine Wp.join0 (⟨[(0, ((slAV 2 Vec.av) vertices)), (3, (iAV ((vertices).length : Int)))], [], [8, 21, 50, 54, 58]⟩) ((ref11_IsConvex_j6 vertices) = some r) ?_ ?_
    · intro h
      refine Wp.join0 (⟨[], [], [8, 21, 50, 54, 58]⟩) (ref11_IsConvex_j5 = some r) ?_ ?_
      · intro h
        refine Wp.seq ?_
        refine Wp.region ?_
        refine GoT.q rfl (QEx.as (boolAV true) (QEx.assign rfl .con)) rfl (lt_b rfl) ?_
        refine GoT.nil ?_
        refine Wp.ret ?_
        cases h
        exact LeafQ.ret [] (by decide) (.cons (.tmp rfl) .nil) rfl
      · refine Wp.seq ?_
        refine Wp.region ?_
        refine GoT.q rfl (QEx.as (iAV 0) (QEx.assign rfl .con)) rfl (lt_b rfl) ?_
        refine GoT.nil ?_
        refine Wp.block ?_
        refine Wp.loop1 (fun v5 => ⟨[(0, ((slAV 2 Vec.av) vertices)), (3, (iAV ((vertices).length : Int))), (5, (iAV v5))], [], [8, 21, 50, 54, 58]⟩) (fun n v5 => ref11_IsConvex_l4 vertices ref11_IsConvex_j5 n v5 = some r) fuel 0 [] [] h (LS.to.mk (.b rfl rfl (.b rfl rfl (.b rfl rfl .n))) .n rfl) ?_
        rintro (_ | n4) v5 h
        · exact none_e h
        rw [ref11_IsConvex_l4] at h
        refine Wp.seq ?_
        refine Wp.seq ?_
        refine Wp.region ?_
        refine GoT.q rfl (QEx.move rfl (.tmp rfl)) rfl (lt_b rfl) ?_
        refine GoT.q rfl (QEx.move rfl (.tmp rfl)) rfl (lt_b rfl) ?_
        refine GoT.q rfl (QEx.lssK rfl (.tmp rfl) (.tmp rfl)) rfl (lt_b rfl) ?_
        refine GoT.nil ?_
        refine Wp.condS h rfl (fun h => ?_) (fun h => ?_)
        · refine Wp.skip ?_
          refine Wp.join0 (⟨[(0, ((slAV 2 Vec.av) vertices)), (3, (iAV ((vertices).length : Int))), (5, (iAV v5))], [], [8, 21, 50, 54, 58]⟩) ((ref11_IsConvex_j3 v5 (ref11_IsConvex_l4 vertices ref11_IsConvex_j5 n4)) = some r) ?_ ?_
          · intro h
            refine let_e h fun x14 hx14 h => ?_
            refine Wp.region ?_
            refine GoT.q rfl (QEx.move rfl (.tmp rfl)) rfl (lt_b rfl) ?_
            refine GoT.q rfl (QEx.addK rfl (.tmp rfl) .con) rfl (lt_b rfl) ?_
            refine GoT.q rfl (QEx.eq (QEx.assign rfl (.tmp rfl)) (congrArg iAV hx14)) rfl (lt_b rfl) ?_
            refine GoT.nil ?_
            exact Round1.mk x14 [] [] h (LS.to.mk (.b rfl rfl (.b rfl rfl (.b rfl rfl .n))) .n rfl)
          · refine Wp.block ?_
            refine chk_e h fun c6 h => ?_
            refine let_e h fun x7 hx7 h => ?_
            refine Wp.seq ?_
            refine Wp.region ?_
            refine GoT.q rfl (QEx.move rfl (.tmp rfl)) rfl (lt_b rfl) ?_
            refine GoT.q rfl (QEx.addK rfl (.tmp rfl) .con) rfl (lt_b rfl) ?_
            refine GoT.q rfl (QEx.move rfl (.tmp rfl)) rfl (lt_b rfl) ?_
            refine GoT.q rfl (QEx.remK rfl (.tmp rfl) (.tmp rfl) c6) rfl (lt_b rfl) ?_
            refine GoT.q rfl (QEx.eq (QEx.assign rfl (.tmp rfl)) (congrArg iAV hx7)) rfl (lt_b rfl) ?_
            refine GoT.nil ?_
            refine Wp.seq ?_
            refine Wp.region ?_
            refine GoT.q rfl (QEx.as (iAV 0) (QEx.assign rfl .con)) rfl (lt_b rfl) ?_
            refine GoT.nil ?_
            refine Wp.block ?_
            refine Wp.loop1 (fun v8 => ⟨[(0, ((slAV 2 Vec.av) vertices)), (3, (iAV ((vertices).length : Int))), (5, (iAV v5)), (6, (iAV x7)), (7, (iAV v8))], [], [8, 21, 50, 54, 58]⟩) (fun n v8 => ref11_IsConvex_l2 vertices v5 (ref11_IsConvex_j3 v5 (ref11_IsConvex_l4 vertices ref11_IsConvex_j5 n4)) x7 n v8 = some r) fuel 0 [] [] h (LS.to.mk (.b rfl rfl (.b rfl rfl (.b rfl rfl (.b rfl rfl (.b rfl rfl .n))))) .n rfl) ?_
            rintro (_ | n6) v8 h
            · exact none_e h
            rw [ref11_IsConvex_l2] at h
            refine Wp.seq ?_
            refine Wp.seq ?_
            refine Wp.region ?_
            refine GoT.q rfl (QEx.move rfl (.tmp rfl)) rfl (lt_b rfl) ?_
            refine GoT.q rfl (QEx.move rfl (.tmp rfl)) rfl (lt_b rfl) ?_
            refine GoT.q rfl (QEx.lssK rfl (.tmp rfl) (.tmp rfl)) rfl (lt_b rfl) ?_
            refine GoT.nil ?_
            refine Wp.condS h rfl (fun h => ?_) (fun h => ?_)
            · refine Wp.skip ?_
              refine Wp.seq ?_
              refine Wp.block ?_
              refine chk_e h fun c9 h => ?_
              refine chk_e h fun c10 h => ?_
              refine chk_e h fun c11 h => ?_
              refine let_e h fun r12 hr12 h => ?_
              refine Wp.seq ?_
              refine Wp.drawn2 (n0 := 24) [8, 21, 50, 54, 58] mixed ?_
              refine GoD.q rfl (QEx.move rfl (.tmp rfl)) rfl (lt_b rfl) ?_
              refine GoD.q rfl (QEx.move rfl (.tmp rfl)) rfl (lt_b rfl) ?_
              refine GoD.q rfl (QEx.neqK rfl (.tmp rfl) (.tmp rfl)) rfl (lt_b rfl) ?_
              refine GoD.q rfl (QEx.move rfl (.tmp rfl)) rfl (lt_b rfl) ?_
              refine GoD.g rfl rfl rfl (fun hg => QEx.move rfl (.tmp rfl)) rfl (lt_b rfl) ?_
              refine GoD.g rfl rfl rfl (fun hg => QEx.move rfl (.tmp rfl)) rfl (lt_b rfl) ?_
              refine GoD.g rfl rfl rfl (fun hg => QEx.neqK rfl (.opt (.tmp rfl) hg) (.opt (.tmp rfl) hg)) rfl (lt_b rfl) ?_
              refine GoD.q rfl (QEx.pickK rfl (.tmp rfl) (fun hp => (.opt (.tmp rfl) (beq_t hp))) (fun hp => .con)) rfl (lt_b rfl) ?_
              refine GoD.q rfl (QEx.move rfl (.tmp rfl)) rfl (lt_b rfl) ?_
              refine GoD.g rfl rfl rfl (fun hg => QEx.move rfl (.tmp rfl)) rfl (lt_b rfl) ?_
              refine GoD.g rfl rfl rfl (fun hg => QEx.move rfl (.tmp rfl)) rfl (lt_b rfl) ?_
              refine GoD.g rfl rfl rfl (fun hg => QEx.as (.cptr (Vec.cells (ix vertices v5))) (QEx.idxL (E := Vec.av) rfl et31 (.opt (.tmp rfl) hg) (.opt (.tmp rfl) hg) (c9 hg))) rfl (lt_b rfl) ?_
              refine GoD.g rfl rfl rfl (fun hg => QEx.ldC (x := (Vec.av (ix vertices v5))) rfl ag24 ts24 (.opt (.tmp rfl) hg) (.inl ⟨rfl, rfl, rfl⟩)) rfl (lt_b rfl) ?_
              refine GoD.g rfl rfl rfl (fun hg => QEx.move rfl (.tmp rfl)) rfl (lt_b rfl) ?_
              refine GoD.g rfl rfl rfl (fun hg => QEx.move rfl (.tmp rfl)) rfl (lt_b rfl) ?_
              refine GoD.g rfl rfl rfl (fun hg => QEx.as (.cptr (Vec.cells (ix vertices x7))) (QEx.idxL (E := Vec.av) rfl et31 (.opt (.tmp rfl) hg) (.opt (.tmp rfl) hg) (c10 hg))) rfl (lt_b rfl) ?_
              refine GoD.g rfl rfl rfl (fun hg => QEx.ldC (x := (Vec.av (ix vertices x7))) rfl ag24 ts24 (.opt (.tmp rfl) hg) (.inl ⟨rfl, rfl, rfl⟩)) rfl (lt_b rfl) ?_
              refine GoD.g rfl rfl rfl (fun hg => QEx.move rfl (.tmp rfl)) rfl (lt_b rfl) ?_
              refine GoD.g rfl rfl rfl (fun hg => QEx.move rfl (.tmp rfl)) rfl (lt_b rfl) ?_
              refine GoD.g rfl rfl rfl (fun hg => QEx.as (.cptr (Vec.cells (ix vertices v8))) (QEx.idxL (E := Vec.av) rfl et31 (.opt (.tmp rfl) hg) (.opt (.tmp rfl) hg) (c11 hg))) rfl (lt_b rfl) ?_
              refine GoD.g rfl rfl rfl (fun hg => QEx.ldC (x := (Vec.av (ix vertices v8))) rfl ag24 ts24 (.opt (.tmp rfl) hg) (.inl ⟨rfl, rfl, rfl⟩)) rfl (lt_b rfl) ?_
              refine GoD.g rfl rfl rfl (fun hg => QEx.cal0 (r := (iAV r12)) [(Vec.av (ix vertices v5)), (Vec.av (ix vertices x7)), (Vec.av (ix vertices v8))] rfl Tryz.call115 (.cons (.opt (.tmp rfl) hg) (.cons (.opt (.tmp rfl) hg) (.cons (.opt (.tmp rfl) hg) .nil))) (ref03_Orientation_ok hr12) rfl rfl) rfl (lt_b rfl) ?_
              refine GoD.g rfl rfl rfl (fun hg => QEx.neqK rfl (.opt (.tmp rfl) hg) .con) rfl (lt_b rfl) ?_
              refine GoD.q rfl (QEx.pickK rfl (.tmp rfl) (fun hp => (.opt (.tmp rfl) (beq_t hp))) (fun hp => .con)) rfl (lt_b rfl) ?_
              refine GoD.nil ⟨by kernel_rfl, by kernel_rfl, by kernel_rfl, by kernel_rfl, by kernel_rfl, ?_⟩
              refine GoT.nil ?_
              refine Wp.condS h rfl (fun h => ?_) (fun h => ?_)
              · refine Wp.seq ?_
                refine Wp.region ?_
                refine GoT.q rfl (QEx.as (boolAV false) (QEx.assign rfl .con)) rfl (lt_b rfl) ?_
                refine GoT.nil ?_
                refine Wp.ret ?_
                cases h
                exact LeafQ.ret [] (by decide) (.cons (.tmp rfl) .nil) rfl
              · refine Wp.skip ?_
                refine let_e h fun x13 hx13 h => ?_
                refine Wp.region ?_
                refine GoT.q rfl (QEx.move rfl (.tmp rfl)) rfl (lt_b rfl) ?_
                refine GoT.q rfl (QEx.addK rfl (.tmp rfl) .con) rfl (lt_b rfl) ?_
                refine GoT.q rfl (QEx.eq (QEx.assign rfl (.tmp rfl)) (congrArg iAV hx13)) rfl (lt_b rfl) ?_
                refine GoT.nil ?_
                exact Round1.mk x13 [] [] h (LS.to.mk (.b rfl rfl (.b rfl rfl (.b rfl rfl (.b rfl rfl (.b rfl rfl .n))))) .n rfl)
            · refine Wp.exit ?_
              exact Joined0.mk [] [] h (LS.to.mk (.b rfl rfl (.b rfl rfl (.b rfl rfl .n))) .n rfl)
        · refine Wp.exit ?_
          exact Joined0.mk [] [] h (LS.to.mk .n .n rfl)
    · refine Wp.seq ?_
      refine Wp.region ?_
      refine GoT.q rfl (QEx.as (iAV 0) (QEx.assign rfl .con)) rfl (lt_b rfl) ?_
      refine GoT.nil ?_
      refine Wp.block ?_
      refine Wp.loop1 (fun v1 => ⟨[(0, ((slAV 2 Vec.av) vertices)), (3, (iAV ((vertices).length : Int))), (4, (iAV v1))], [], [8, 21, 50, 54, 58]⟩) (fun n v1 => ref11_IsConvex_l1 vertices (ref11_IsConvex_j6 vertices) n v1 = some r) fuel 0 [] [] h (LS.to.mk (.b rfl rfl (.b rfl rfl (.b rfl rfl .n))) .n rfl) ?_
      rintro (_ | n2) v1 h
      · exact none_e h
      rw [ref11_IsConvex_l1] at h
      refine Wp.seq ?_
      refine Wp.seq ?_
      refine Wp.region ?_
      refine GoT.q rfl (QEx.move rfl (.tmp rfl)) rfl (lt_b rfl) ?_
      refine GoT.q rfl (QEx.move rfl (.tmp rfl)) rfl (lt_b rfl) ?_
      refine GoT.q rfl (QEx.lssK rfl (.tmp rfl) (.tmp rfl)) rfl (lt_b rfl) ?_
      refine GoT.nil ?_
      refine Wp.condS h rfl (fun h => ?_) (fun h => ?_)
      · refine Wp.skip ?_
        refine Wp.seq ?_
        refine Wp.block ?_
        refine chk_e h fun c2 h => ?_
        refine let_e h fun r3 hr3 h => ?_
        refine Wp.seq ?_
        refine Wp.region ?_
        refine GoT.q rfl (QEx.move rfl (.tmp rfl)) rfl (lt_b rfl) ?_
        refine GoT.q rfl (QEx.move rfl (.tmp rfl)) rfl (lt_b rfl) ?_
        refine GoT.q rfl (QEx.as (.cptr (Vec.cells (ix vertices v1))) (QEx.idxL (E := Vec.av) rfl et31 (.tmp rfl) (.tmp rfl) c2)) rfl (lt_b rfl) ?_
        refine GoT.q rfl (QEx.ldC (x := (Vec.av (ix vertices v1))) rfl ag24 ts24 (.tmp rfl) (.inl ⟨rfl, rfl, rfl⟩)) rfl (lt_b rfl) ?_
        refine GoT.q rfl (QEx.cal0 (r := (boolAV r3)) [(Vec.av (ix vertices v1))] rfl Tryz.call134 (.cons (.tmp rfl) .nil) (ref11_inRange_ok hr3) rfl rfl) rfl (lt_b rfl) ?_
        refine GoT.q rfl (QEx.notK rfl (.tmp rfl)) rfl (lt_b rfl) ?_
        refine GoT.nil ?_
        refine Wp.condS h rfl (fun h => ?_) (fun h => ?_)
        · refine Wp.seq ?_
          refine Wp.region ?_
          refine GoT.q rfl (QEx.as (boolAV false) (QEx.assign rfl .con)) rfl (lt_b rfl) ?_
          refine GoT.nil ?_
          refine Wp.ret ?_
          cases h
          exact LeafQ.ret [] (by decide) (.cons (.tmp rfl) .nil) rfl
        · refine Wp.skip ?_
          refine let_e h fun x4 hx4 h => ?_
          refine Wp.region ?_
          refine GoT.q rfl (QEx.move rfl (.tmp rfl)) rfl (lt_b rfl) ?_
          refine GoT.q rfl (QEx.addK rfl (.tmp rfl) .con) rfl (lt_b rfl) ?_
          refine GoT.q rfl (QEx.eq (QEx.assign rfl (.tmp rfl)) (congrArg iAV hx4)) rfl (lt_b rfl) ?_
          refine GoT.nil ?_
          exact Round1.mk x4 [] [] h (LS.to.mk (.b rfl rfl (.b rfl rfl (.b rfl rfl .n))) .n rfl)
      · refine Wp.exit ?_
        exact Joined0.mk [] [] h (LS.to.mk (.b rfl rfl (.b rfl rfl .n)) .n rfl)
theorem ref11_ShortestEdge_ok {vertices : List Vec} {r : Int} (h : ref11_ShortestEdge vertices = some r) : FnR Tryz.prog 90 [((slAV 2 Vec.av) vertices)] (iAV r) := by
  refine FnR.intro' (fn := Tryz.f90) (N := 38) Tryz.func90 rfl rfl (Nat.le_of_ble_eq_true rfl) [6, 10, 15, 18, 23] ?_
  refine Wp.seq ?_
  refine Wp.region ?_
  refine GoT.q rfl (QEx.as (iAV 0) (QEx.assign rfl .con)) rfl (lt_b rfl) ?_
  refine GoT.nil ?_
  refine Wp.seq ?_
  refine bind_e h fun r1 hr1 h => ?_
  refine Wp.seq ?_
  refine Wp.region ?_
  refine GoT.q rfl (QEx.move rfl (.tmp rfl)) rfl (lt_b rfl) ?_
  refine GoT.q rfl (QEx.cal0 (r := (boolAV r1)) [((slAV 2 Vec.av) vertices)] rfl Tryz.call89 (.cons (.tmp rfl) .nil) (ref11_IsConvex_ok hr1) rfl rfl) rfl (lt_b rfl) ?_
  refine GoT.q rfl (QEx.notK rfl (.tmp rfl)) rfl (lt_b rfl) ?_
  refine GoT.nil ?_
  refine Wp.condS h rfl (fun h => ?_) (fun h => ?_)
  · refine Wp.seq ?_
    refine Wp.region ?_
    refine GoT.q rfl (QEx.as (iAV 0) (QEx.assign rfl .con)) rfl (lt_b rfl) ?_
    refine GoT.nil ?_
    refine Wp.ret ?_
    cases h
    exact LeafQ.ret [] (by decide) (.cons (.tmp rfl) .nil) rfl
  · refine Wp.skip ?_
    refine Wp.seq ?_
    refine Wp.region ?_
    refine GoT.q rfl (QEx.as (iAV (-1)) (QEx.assign rfl .con)) rfl (lt_b rfl) ?_
    refine GoT.nil ?_
    refine Wp.join1 (fun v2 => ⟨[(3, (iAV v2))], [], [6, 10, 15, 18, 23]⟩) (fun v2 => ref11_ShortestEdge_j3 v2 = some r) ?_ ?_
    · intro v2 h
      refine Wp.seq ?_
      refine Wp.region ?_
      refine GoT.q rfl (QEx.move rfl (.tmp rfl)) rfl (lt_b rfl) ?_
      refine GoT.q rfl (QEx.assign rfl (.tmp rfl)) rfl (lt_b rfl) ?_
      refine GoT.nil ?_
      refine Wp.ret ?_
      cases h
      exact LeafQ.ret [] (by decide) (.cons (.tmp rfl) .nil) rfl
    · refine Wp.seq ?_
      refine Wp.region ?_
      refine GoT.q rfl (QEx.as (iAV 0) (QEx.assign rfl .con)) rfl (lt_b rfl) ?_
      refine GoT.nil ?_
      refine Wp.block ?_
      refine Wp.loop2 (fun v3 v4 => ⟨[(0, ((slAV 2 Vec.av) vertices)), (3, (iAV v3)), (4, (iAV v4))], [], [6, 10, 15, 18, 23]⟩) (fun n v3 v4 => ref11_ShortestEdge_l2 vertices ref11_ShortestEdge_j3 n v3 v4 = some r) fuel (-1) 0 [] [] h (LS.to.mk (.b rfl rfl (.b rfl rfl (.b rfl rfl .n))) .n rfl) ?_
      rintro (_ | n2) v3 v4 h
      · exact none_e h
      rw [ref11_ShortestEdge_l2] at h
      refine Wp.seq ?_
      refine Wp.seq ?_
      refine Wp.region ?_
      refine GoT.q rfl (QEx.move rfl (.tmp rfl)) rfl (lt_b rfl) ?_
      refine GoT.q rfl (QEx.move rfl (.tmp rfl)) rfl (lt_b rfl) ?_
      refine GoT.q rfl (QEx.lenL rfl ⟨_, uT31⟩ (.tmp rfl)) rfl (lt_b rfl) ?_
      refine GoT.q rfl (QEx.lssK rfl (.tmp rfl) (.tmp rfl)) rfl (lt_b rfl) ?_
      refine GoT.nil ?_
      refine Wp.condS h rfl (fun h => ?_) (fun h => ?_)
      · refine Wp.skip ?_
        refine Wp.join1 (fun v5 => ⟨[(0, ((slAV 2 Vec.av) vertices)), (3, (iAV v5)), (4, (iAV v4))], [], [6, 10, 15, 18, 23]⟩) (fun v5 => (ref11_ShortestEdge_j1 v4 (ref11_ShortestEdge_l2 vertices ref11_ShortestEdge_j3 n2)) v5 = some r) ?_ ?_
        · intro v5 h
          refine let_e h fun x11 hx11 h => ?_
          refine Wp.region ?_
          refine GoT.q rfl (QEx.move rfl (.tmp rfl)) rfl (lt_b rfl) ?_
          refine GoT.q rfl (QEx.addK rfl (.tmp rfl) .con) rfl (lt_b rfl) ?_
          refine GoT.q rfl (QEx.eq (QEx.assign rfl (.tmp rfl)) (congrArg iAV hx11)) rfl (lt_b rfl) ?_
          refine GoT.nil ?_
          exact Round2.mk v5 x11 [] [] h (LS.to.mk (.b rfl rfl (.b rfl rfl (.b rfl rfl .n))) .n rfl)
        · refine Wp.block ?_
          refine chk_e h fun c6 h => ?_
          refine chk_e h fun c7 h => ?_
          refine chk_e h fun c8 h => ?_
          refine let_e h fun r9 hr9 h => ?_
          refine bind_e h fun r10 hr10 h => ?_
          refine Wp.seq ?_
          refine Wp.drawn2 (n0 := 15) [6, 10, 15, 18, 23] mixed ?_
          refine GoD.q rfl (QEx.move rfl (.tmp rfl)) rfl (lt_b rfl) ?_
          refine GoD.q rfl (QEx.move rfl (.tmp rfl)) rfl (lt_b rfl) ?_
          refine GoD.q rfl (QEx.addK rfl (.tmp rfl) .con) rfl (lt_b rfl) ?_
          refine GoD.q rfl (QEx.move rfl (.tmp rfl)) rfl (lt_b rfl) ?_
          refine GoD.q rfl (QEx.lenL rfl ⟨_, uT31⟩ (.tmp rfl)) rfl (lt_b rfl) ?_
          refine GoD.q rfl (QEx.remK rfl (.tmp rfl) (.tmp rfl) c6) rfl (lt_b rfl) ?_
          refine GoD.q rfl (QEx.as (.cptr (Vec.cells (ix vertices (Int.tmod (w64 (v4 + 1)) ((vertices).length : Int))))) (QEx.idxL (E := Vec.av) rfl et31 (.tmp rfl) (.tmp rfl) c7)) rfl (lt_b rfl) ?_
          refine GoD.q rfl (QEx.ldC (x := (Vec.av (ix vertices (Int.tmod (w64 (v4 + 1)) ((vertices).length : Int))))) rfl ag24 ts24 (.tmp rfl) (.inl ⟨rfl, rfl, rfl⟩)) rfl (lt_b rfl) ?_
          refine GoD.q rfl (QEx.move rfl (.tmp rfl)) rfl (lt_b rfl) ?_
          refine GoD.q rfl (QEx.move rfl (.tmp rfl)) rfl (lt_b rfl) ?_
          refine GoD.q rfl (QEx.as (.cptr (Vec.cells (ix vertices v4))) (QEx.idxL (E := Vec.av) rfl et31 (.tmp rfl) (.tmp rfl) c8)) rfl (lt_b rfl) ?_
          refine GoD.q rfl (QEx.ldC (x := (Vec.av (ix vertices v4))) rfl ag24 ts24 (.tmp rfl) (.inl ⟨rfl, rfl, rfl⟩)) rfl (lt_b rfl) ?_
          refine GoD.q rfl (QEx.cal0 (r := (Vec.av r9)) [(Vec.av (ix vertices (Int.tmod (w64 (v4 + 1)) ((vertices).length : Int)))), (Vec.av (ix vertices v4))] rfl Tryz.call56 (.cons (.tmp rfl) (.cons (.tmp rfl) .nil)) (ref03_Sub_ok hr9) rfl rfl) rfl (lt_b rfl) ?_
          refine GoD.q rfl (QEx.cal0 (r := (iAV r10)) [(Vec.av r9)] rfl Tryz.call88 (.cons (.tmp rfl) .nil) (ref03_Length_ok hr10) rfl rfl) rfl (lt_b rfl) ?_
          refine GoD.q rfl (QEx.assign rfl (.tmp rfl)) rfl (lt_b rfl) ?_
          refine GoD.nil ⟨by kernel_rfl, by kernel_rfl, by kernel_rfl, by kernel_rfl, by kernel_rfl, ?_⟩
          refine GoT.nil ?_
          refine Wp.seq ?_
          refine Wp.region ?_
          refine GoT.q rfl (QEx.move rfl (.tmp rfl)) rfl (lt_b rfl) ?_
          refine GoT.q rfl (QEx.lssK rfl (.tmp rfl) .con) rfl (lt_b rfl) ?_
          refine GoT.q rfl (QEx.move rfl (.tmp rfl)) rfl (lt_b rfl) ?_
          refine GoT.g rfl rfl rfl (fun hg => QEx.move rfl (.tmp rfl)) rfl (lt_b rfl) ?_
          refine GoT.g rfl rfl rfl (fun hg => QEx.move rfl (.tmp rfl)) rfl (lt_b rfl) ?_
          refine GoT.g rfl rfl rfl (fun hg => QEx.lssK rfl (.opt (.tmp rfl) hg) (.opt (.tmp rfl) hg)) rfl (lt_b rfl) ?_
          refine GoT.q rfl (QEx.pickK rfl (.tmp rfl) (fun hp => .con) (fun hp => (.opt (.tmp rfl) (beq_f hp)))) rfl (lt_b rfl) ?_
          refine GoT.nil ?_
          refine Wp.condS h rfl (fun h => ?_) (fun h => ?_)
          · refine Wp.region ?_
            refine GoT.q rfl (QEx.move rfl (.tmp rfl)) rfl (lt_b rfl) ?_
            refine GoT.q rfl (QEx.assign rfl (.tmp rfl)) rfl (lt_b rfl) ?_
            refine GoT.nil ?_
            exact Joined1.mk r10 [] [] h (LS.to.mk (.b rfl rfl (.b rfl rfl (.b rfl rfl .n))) .n rfl)
          · refine Wp.skip ?_
            exact Joined1.mk v3 [] [] h (LS.to.mk (.b rfl rfl (.b rfl rfl (.b rfl rfl .n))) .n rfl)
      · refine Wp.exit ?_
        exact Joined1.mk v3 [] [] h (LS.to.mk (.b rfl rfl .n) .n rfl)
theorem ref01_RoundDiv_ok {n_0 : Int} {d : Int} {r : Int} (h : ref01_RoundDiv n_0 d = some r) : FnR Tryz.prog 122 [(iAV n_0), (iAV d)] (iAV r) := by
  refine FnR.intro' (fn := Tryz.f122) (N := 43) Tryz.func122 rfl rfl (Nat.le_of_ble_eq_true rfl) [] ?_
  refine Wp.seq ?_
  refine Wp.region ?_
  refine GoT.q rfl (QEx.as (iAV 0) (QEx.assign rfl .con)) rfl (lt_b rfl) ?_
  refine GoT.nil ?_
  refine Wp.seq ?_
  refine let_e h fun r1 hr1 h => ?_
  refine let_e h fun r2 hr2 h => ?_
  refine Wp.seq ?_
  refine Wp.region ?_
  refine GoT.q rfl (QEx.move rfl (.tmp rfl)) rfl (lt_b rfl) ?_
  refine GoT.q rfl (QEx.lssK rfl (.tmp rfl) .con) rfl (lt_b rfl) ?_
  refine GoT.q rfl (QEx.move rfl (.tmp rfl)) rfl (lt_b rfl) ?_
  refine GoT.g rfl rfl rfl (fun hg => QEx.move rfl (.tmp rfl)) rfl (lt_b rfl) ?_
  refine GoT.g rfl rfl rfl (fun hg => QEx.cal0 (r := (boolAV r1)) [(iAV d)] rfl Tryz.call159 (.cons (.opt (.tmp rfl) hg) .nil) (ref01_outOfRange_ok hr1) rfl rfl) rfl (lt_b rfl) ?_
  refine GoT.q rfl (QEx.pickK rfl (.tmp rfl) (fun hp => .con) (fun hp => (.opt (.tmp rfl) (beq_f hp)))) rfl (lt_b rfl) ?_
  refine GoT.q rfl (QEx.move rfl (.tmp rfl)) rfl (lt_b rfl) ?_
  refine GoT.g rfl rfl rfl (fun hg => QEx.move rfl (.tmp rfl)) rfl (lt_b rfl) ?_
  refine GoT.g rfl rfl rfl (fun hg => QEx.cal0 (r := (boolAV r2)) [(iAV n_0)] rfl Tryz.call159 (.cons (.opt (.tmp rfl) hg) .nil) (ref01_outOfRange_ok hr2) rfl rfl) rfl (lt_b rfl) ?_
  refine GoT.q rfl (QEx.pickK rfl (.tmp rfl) (fun hp => .con) (fun hp => (.opt (.tmp rfl) (beq_f hp)))) rfl (lt_b rfl) ?_
  refine GoT.nil ?_
  refine Wp.condS h rfl (fun h => ?_) (fun h => ?_)
  · refine Wp.seq ?_
    refine Wp.region ?_
    refine GoT.q rfl (QEx.as (iAV 0) (QEx.assign rfl .con)) rfl (lt_b rfl) ?_
    refine GoT.nil ?_
    refine Wp.ret ?_
    cases h
    exact LeafQ.ret [] (by decide) (.cons (.tmp rfl) .nil) rfl
  · refine Wp.skip ?_
    refine Wp.seq ?_
    refine Wp.region ?_
    refine GoT.q rfl (QEx.move rfl (.tmp rfl)) rfl (lt_b rfl) ?_
    refine GoT.q rfl (QEx.assign rfl (.tmp rfl)) rfl (lt_b rfl) ?_
    refine GoT.nil ?_
    refine Wp.join1 (fun v3 => ⟨[(0, (iAV n_0)), (1, (iAV d)), (5, (iAV v3))], [], []⟩) (fun v3 => (ref01_RoundDiv_j2 n_0 d) v3 = some r) ?_ ?_
    · intro v3 h
      refine chk_e h fun c5 h => ?_
      refine let_e h fun x6 hx6 h => ?_
      refine Wp.seq ?_
      refine Wp.region ?_
      refine GoT.q rfl (QEx.move rfl (.tmp rfl)) rfl (lt_b rfl) ?_
      refine GoT.q rfl (QEx.move rfl (.tmp rfl)) rfl (lt_b rfl) ?_
      refine GoT.q rfl (QEx.quoK rfl (.tmp rfl) (.tmp rfl) c5) rfl (lt_b rfl) ?_
      refine GoT.q rfl (QEx.eq (QEx.assign rfl (.tmp rfl)) (congrArg iAV hx6)) rfl (lt_b rfl) ?_
      refine GoT.nil ?_
      refine let_e h fun x7 hx7 h => ?_
      refine Wp.seq ?_
      refine Wp.region ?_
      refine GoT.q rfl (QEx.move rfl (.tmp rfl)) rfl (lt_b rfl) ?_
      refine GoT.q rfl (QEx.move rfl (.tmp rfl)) rfl (lt_b rfl) ?_
      refine GoT.q rfl (QEx.move rfl (.tmp rfl)) rfl (lt_b rfl) ?_
      refine GoT.q rfl (QEx.mulK rfl (.tmp rfl) (.tmp rfl)) rfl (lt_b rfl) ?_
      refine GoT.q rfl (QEx.subK rfl (.tmp rfl) (.tmp rfl)) rfl (lt_b rfl) ?_
      refine GoT.q rfl (QEx.eq (QEx.assign rfl (.tmp rfl)) (congrArg iAV hx7)) rfl (lt_b rfl) ?_
      refine GoT.nil ?_
      refine Wp.join1 (fun v8 => ⟨[(0, (iAV n_0)), (6, (iAV v8))], [], []⟩) (fun v8 => (ref01_RoundDiv_j1 n_0) v8 = some r) ?_ ?_
      · intro v8 h
        refine Wp.seq ?_
        refine Wp.seq ?_
        refine Wp.region ?_
        refine GoT.q rfl (QEx.move rfl (.tmp rfl)) rfl (lt_b rfl) ?_
        refine GoT.q rfl (QEx.lssK rfl (.tmp rfl) .con) rfl (lt_b rfl) ?_
        refine GoT.nil ?_
        refine Wp.condS h rfl (fun h => ?_) (fun h => ?_)
        · refine let_e h fun x10 hx10 h => ?_
          refine Wp.seq ?_
          refine Wp.region ?_
          refine GoT.q rfl (QEx.move rfl (.tmp rfl)) rfl (lt_b rfl) ?_
          refine GoT.q rfl (QEx.negK rfl (.tmp rfl)) rfl (lt_b rfl) ?_
          refine GoT.q rfl (QEx.eq (QEx.assign rfl (.tmp rfl)) (congrArg iAV hx10)) rfl (lt_b rfl) ?_
          refine GoT.nil ?_
          refine Wp.ret ?_
          cases h
          exact LeafQ.ret [] (by decide) (.cons (.tmp rfl) .nil) rfl
        · refine Wp.skip ?_
          refine Wp.seq ?_
          refine Wp.region ?_
          refine GoT.q rfl (QEx.move rfl (.tmp rfl)) rfl (lt_b rfl) ?_
          refine GoT.q rfl (QEx.assign rfl (.tmp rfl)) rfl (lt_b rfl) ?_
          refine GoT.nil ?_
          refine Wp.ret ?_
          cases h
          exact LeafQ.ret [] (by decide) (.cons (.tmp rfl) .nil) rfl
      · refine Wp.seq ?_
        refine Wp.region ?_
        refine GoT.q rfl (QEx.move rfl (.tmp rfl)) rfl (lt_b rfl) ?_
        refine GoT.q rfl (QEx.move rfl (.tmp rfl)) rfl (lt_b rfl) ?_
        refine GoT.q rfl (QEx.move rfl (.tmp rfl)) rfl (lt_b rfl) ?_
        refine GoT.q rfl (QEx.subK rfl (.tmp rfl) (.tmp rfl)) rfl (lt_b rfl) ?_
        refine GoT.q rfl (QEx.geqK rfl (.tmp rfl) (.tmp rfl)) rfl (lt_b rfl) ?_
        refine GoT.nil ?_
        refine Wp.condS h rfl (fun h => ?_) (fun h => ?_)
        · refine let_e h fun x9 hx9 h => ?_
          refine Wp.region ?_
          refine GoT.q rfl (QEx.move rfl (.tmp rfl)) rfl (lt_b rfl) ?_
          refine GoT.q rfl (QEx.addK rfl (.tmp rfl) .con) rfl (lt_b rfl) ?_
          refine GoT.q rfl (QEx.eq (QEx.assign rfl (.tmp rfl)) (congrArg iAV hx9)) rfl (lt_b rfl) ?_
          refine GoT.nil ?_
          exact Joined1.mk x9 [] [] h (LS.to.mk (.b rfl rfl (.b rfl rfl .n)) .n rfl)
        · refine Wp.skip ?_
          exact Joined1.mk x6 [] [] h (LS.to.mk (.b rfl rfl (.b rfl rfl .n)) .n rfl)
    · refine Wp.seq ?_
      refine Wp.region ?_
      refine GoT.q rfl (QEx.move rfl (.tmp rfl)) rfl (lt_b rfl) ?_
      refine GoT.q rfl (QEx.lssK rfl (.tmp rfl) .con) rfl (lt_b rfl) ?_
      refine GoT.nil ?_
      refine Wp.condS h rfl (fun h => ?_) (fun h => ?_)
      · refine let_e h fun x4 hx4 h => ?_
        refine Wp.region ?_
        refine GoT.q rfl (QEx.move rfl (.tmp rfl)) rfl (lt_b rfl) ?_
        refine GoT.q rfl (QEx.negK rfl (.tmp rfl)) rfl (lt_b rfl) ?_
        refine GoT.q rfl (QEx.eq (QEx.assign rfl (.tmp rfl)) (congrArg iAV hx4)) rfl (lt_b rfl) ?_
        refine GoT.nil ?_
        exact Joined1.mk x4 [] [] h (LS.to.mk (.b rfl rfl (.b rfl rfl (.b rfl rfl .n))) .n rfl)
      · refine Wp.skip ?_
        exact Joined1.mk n_0 [] [] h (LS.to.mk (.b rfl rfl (.b rfl rfl (.b rfl rfl .n))) .n rfl)
theorem ref11_cross_ok {v_0 : List Vec} {i : Int} {r : Int} (h : ref11_cross v_0 i = some r) : FnR Tryz.prog 135 [((slAV 2 Vec.av) v_0), (iAV i)] (iAV r) := by
  refine FnR.intro' (fn := Tryz.f135) (N := 63) Tryz.func135 rfl rfl (Nat.le_of_ble_eq_true rfl) [5, 6, 7, 12, 17, 22, 28, 34, 39, 45] ?_
  refine Wp.seq ?_
  refine Wp.region ?_
  refine GoT.q rfl (QEx.as (iAV 0) (QEx.assign rfl .con)) rfl (lt_b rfl) ?_
  refine GoT.nil ?_
  refine chk_e h fun c1 h => ?_
  refine chk_e h fun c2 h => ?_
  refine chk_e h fun c3 h => ?_
  refine chk_e h fun c4 h => ?_
  refine let_e h fun x5 hx5 h => ?_
  refine Wp.seq ?_
  refine Wp.drawn2 (n0 := 23) [6, 7, 12, 17, 22, 28, 34, 39, 45] mixed ?_
  refine GoD.q rfl (QEx.move rfl (.tmp rfl)) rfl (lt_b rfl) ?_
  refine GoD.q rfl (QEx.move rfl (.tmp rfl)) rfl (lt_b rfl) ?_
  refine GoD.q rfl (QEx.as (.cptr (Vec.cells (ix v_0 i))) (QEx.idxL (E := Vec.av) rfl et31 (.tmp rfl) (.tmp rfl) c1)) rfl (lt_b rfl) ?_
  refine GoD.q rfl (QEx.fldC [(iAV ((ix v_0 i).X))] rfl uT24 rfl ts3 rfl (.tmp rfl) rfl) rfl (lt_b rfl) ?_
  refine GoD.q rfl (QEx.ldC (x := (iAV ((ix v_0 i).X))) rfl ag3 ts3 (.tmp rfl) (.inr ⟨rfl, rfl⟩)) rfl (lt_b rfl) ?_
  refine GoD.q rfl (QEx.move rfl (.tmp rfl)) rfl (lt_b rfl) ?_
  refine GoD.q rfl (QEx.as (.cptr (Vec.cells (ix v_0 0))) (QEx.idxL (E := Vec.av) rfl et31 (.tmp rfl) .con c2)) rfl (lt_b rfl) ?_
  refine GoD.q rfl (QEx.fldC [(iAV ((ix v_0 0).X))] rfl uT24 rfl ts3 rfl (.tmp rfl) rfl) rfl (lt_b rfl) ?_
  refine GoD.q rfl (QEx.ldC (x := (iAV ((ix v_0 0).X))) rfl ag3 ts3 (.tmp rfl) (.inr ⟨rfl, rfl⟩)) rfl (lt_b rfl) ?_
  refine GoD.q rfl (QEx.subK rfl (.tmp rfl) (.tmp rfl)) rfl (lt_b rfl) ?_
  refine GoD.q rfl (QEx.move rfl (.tmp rfl)) rfl (lt_b rfl) ?_
  refine GoD.q rfl (QEx.move rfl (.tmp rfl)) rfl (lt_b rfl) ?_
  refine GoD.q rfl (QEx.as (.cptr (Vec.cells (ix v_0 i))) (QEx.idxL (E := Vec.av) rfl et31 (.tmp rfl) (.tmp rfl) c3)) rfl (lt_b rfl) ?_
  refine GoD.q rfl (QEx.fldC [(iAV ((ix v_0 i).Y))] rfl uT24 rfl ts3 rfl (.tmp rfl) rfl) rfl (lt_b rfl) ?_
  refine GoD.q rfl (QEx.ldC (x := (iAV ((ix v_0 i).Y))) rfl ag3 ts3 (.tmp rfl) (.inr ⟨rfl, rfl⟩)) rfl (lt_b rfl) ?_
  refine GoD.q rfl (QEx.move rfl (.tmp rfl)) rfl (lt_b rfl) ?_
  refine GoD.q rfl (QEx.as (.cptr (Vec.cells (ix v_0 0))) (QEx.idxL (E := Vec.av) rfl et31 (.tmp rfl) .con c4)) rfl (lt_b rfl) ?_
  refine GoD.q rfl (QEx.fldC [(iAV ((ix v_0 0).Y))] rfl uT24 rfl ts3 rfl (.tmp rfl) rfl) rfl (lt_b rfl) ?_
  refine GoD.q rfl (QEx.ldC (x := (iAV ((ix v_0 0).Y))) rfl ag3 ts3 (.tmp rfl) (.inr ⟨rfl, rfl⟩)) rfl (lt_b rfl) ?_
  refine GoD.q rfl (QEx.subK rfl (.tmp rfl) (.tmp rfl)) rfl (lt_b rfl) ?_
  refine GoD.q rfl (QEx.as (Vec.av (⟨(w64 (((ix v_0 i).X) - ((ix v_0 0).X))), (w64 (((ix v_0 i).Y) - ((ix v_0 0).Y)))⟩ : Vec)) (QEx.buildZ rfl uT24 zt24 (by kernel_rfl) (.cons rfl (.tmp rfl) rfl rfl (le_b rfl) (.cons rfl (.tmp rfl) rfl rfl (le_b rfl) .nil)))) rfl (lt_b rfl) ?_
  refine GoD.al rfl rfl zt24 rfl (lt_b rfl) ?_
  refine GoD.s rfl (Z := (Vec.cells x5)) rfl rfl ts24 (.tmp rfl) rfl (.tmp rfl) rfl rfl (le_b rfl) (congrArg (fun (x : Vec) => (Vec.cells x)) hx5) ?_
  refine GoD.nil ⟨by kernel_rfl, by kernel_rfl, by kernel_rfl, by kernel_rfl, by kernel_rfl, ?_⟩
  refine GoT.nil ?_
  refine chk_e h fun c6 h => ?_
  refine chk_e h fun c7 h => ?_
  refine chk_e h fun c8 h => ?_
  refine chk_e h fun c9 h => ?_
  refine let_e h fun x10 hx10 h => ?_
  refine Wp.seq ?_
  refine Wp.drawn2 (n0 := 25) [7, 12, 17, 22, 28, 34, 39, 45] mixed ?_
  refine GoD.q rfl (QEx.move rfl (.tmp rfl)) rfl (lt_b rfl) ?_
  refine GoD.q rfl (QEx.move rfl (.tmp rfl)) rfl (lt_b rfl) ?_
  refine GoD.q rfl (QEx.addK rfl (.tmp rfl) .con) rfl (lt_b rfl) ?_
  refine GoD.q rfl (QEx.as (.cptr (Vec.cells (ix v_0 (w64 (i + 1))))) (QEx.idxL (E := Vec.av) rfl et31 (.tmp rfl) (.tmp rfl) c6)) rfl (lt_b rfl) ?_
  refine GoD.q rfl (QEx.fldC [(iAV ((ix v_0 (w64 (i + 1))).X))] rfl uT24 rfl ts3 rfl (.tmp rfl) rfl) rfl (lt_b rfl) ?_
  refine GoD.q rfl (QEx.ldC (x := (iAV ((ix v_0 (w64 (i + 1))).X))) rfl ag3 ts3 (.tmp rfl) (.inr ⟨rfl, rfl⟩)) rfl (lt_b rfl) ?_
  refine GoD.q rfl (QEx.move rfl (.tmp rfl)) rfl (lt_b rfl) ?_
  refine GoD.q rfl (QEx.as (.cptr (Vec.cells (ix v_0 0))) (QEx.idxL (E := Vec.av) rfl et31 (.tmp rfl) .con c7)) rfl (lt_b rfl) ?_
  refine GoD.q rfl (QEx.fldC [(iAV ((ix v_0 0).X))] rfl uT24 rfl ts3 rfl (.tmp rfl) rfl) rfl (lt_b rfl) ?_
  refine GoD.q rfl (QEx.ldC (x := (iAV ((ix v_0 0).X))) rfl ag3 ts3 (.tmp rfl) (.inr ⟨rfl, rfl⟩)) rfl (lt_b rfl) ?_
  refine GoD.q rfl (QEx.subK rfl (.tmp rfl) (.tmp rfl)) rfl (lt_b rfl) ?_
  refine GoD.q rfl (QEx.move rfl (.tmp rfl)) rfl (lt_b rfl) ?_
  refine GoD.q rfl (QEx.move rfl (.tmp rfl)) rfl (lt_b rfl) ?_
  refine GoD.q rfl (QEx.addK rfl (.tmp rfl) .con) rfl (lt_b rfl) ?_
  refine GoD.q rfl (QEx.as (.cptr (Vec.cells (ix v_0 (w64 (i + 1))))) (QEx.idxL (E := Vec.av) rfl et31 (.tmp rfl) (.tmp rfl) c8)) rfl (lt_b rfl) ?_
  refine GoD.q rfl (QEx.fldC [(iAV ((ix v_0 (w64 (i + 1))).Y))] rfl uT24 rfl ts3 rfl (.tmp rfl) rfl) rfl (lt_b rfl) ?_
  refine GoD.q rfl (QEx.ldC (x := (iAV ((ix v_0 (w64 (i + 1))).Y))) rfl ag3 ts3 (.tmp rfl) (.inr ⟨rfl, rfl⟩)) rfl (lt_b rfl) ?_
  refine GoD.q rfl (QEx.move rfl (.tmp rfl)) rfl (lt_b rfl) ?_
  refine GoD.q rfl (QEx.as (.cptr (Vec.cells (ix v_0 0))) (QEx.idxL (E := Vec.av) rfl et31 (.tmp rfl) .con c9)) rfl (lt_b rfl) ?_
  refine GoD.q rfl (QEx.fldC [(iAV ((ix v_0 0).Y))] rfl uT24 rfl ts3 rfl (.tmp rfl) rfl) rfl (lt_b rfl) ?_
  refine GoD.q rfl (QEx.ldC (x := (iAV ((ix v_0 0).Y))) rfl ag3 ts3 (.tmp rfl) (.inr ⟨rfl, rfl⟩)) rfl (lt_b rfl) ?_
  refine GoD.q rfl (QEx.subK rfl (.tmp rfl) (.tmp rfl)) rfl (lt_b rfl) ?_
  refine GoD.q rfl (QEx.as (Vec.av (⟨(w64 (((ix v_0 (w64 (i + 1))).X) - ((ix v_0 0).X))), (w64 (((ix v_0 (w64 (i + 1))).Y) - ((ix v_0 0).Y)))⟩ : Vec)) (QEx.buildZ rfl uT24 zt24 (by kernel_rfl) (.cons rfl (.tmp rfl) rfl rfl (le_b rfl) (.cons rfl (.tmp rfl) rfl rfl (le_b rfl) .nil)))) rfl (lt_b rfl) ?_
  refine GoD.al rfl rfl zt24 rfl (lt_b rfl) ?_
  refine GoD.s rfl (Z := (Vec.cells x10)) rfl rfl ts24 (.tmp rfl) rfl (.tmp rfl) rfl rfl (le_b rfl) (congrArg (fun (x : Vec) => (Vec.cells x)) hx10) ?_
  refine GoD.nil ⟨by kernel_rfl, by kernel_rfl, by kernel_rfl, by kernel_rfl, by kernel_rfl, ?_⟩
  refine GoT.nil ?_
  refine bind_e h fun r11 hr11 h => ?_
  refine Wp.seq ?_
  refine Wp.region ?_
  refine GoT.q rfl (QEx.fldP 0 rfl uT24 rfl ts3 rfl (.tmp rfl) rfl) rfl (lt_b rfl) ?_
  refine GoT.qr rfl rfl (QEx.ldP1 (Vec.cells x5) (iAV x5.X) rfl ag3 (.tmp rfl) rfl) rfl (lt_b rfl) ?_
  refine GoT.q rfl (QEx.fldP 1 rfl uT24 rfl ts3 rfl (.tmp rfl) rfl) rfl (lt_b rfl) ?_
  refine GoT.qr rfl rfl (QEx.ldP1 (Vec.cells x10) (iAV x10.Y) rfl ag3 (.tmp rfl) rfl) rfl (lt_b rfl) ?_
  refine GoT.q rfl (QEx.mulK rfl (.tmp rfl) (.tmp rfl)) rfl (lt_b rfl) ?_
  refine GoT.q rfl (QEx.fldP 1 rfl uT24 rfl ts3 rfl (.tmp rfl) rfl) rfl (lt_b rfl) ?_
  refine GoT.qr rfl rfl (QEx.ldP1 (Vec.cells x5) (iAV x5.Y) rfl ag3 (.tmp rfl) rfl) rfl (lt_b rfl) ?_
  refine GoT.q rfl (QEx.fldP 0 rfl uT24 rfl ts3 rfl (.tmp rfl) rfl) rfl (lt_b rfl) ?_
  refine GoT.qr rfl rfl (QEx.ldP1 (Vec.cells x10) (iAV x10.X) rfl ag3 (.tmp rfl) rfl) rfl (lt_b rfl) ?_
  refine GoT.q rfl (QEx.mulK rfl (.tmp rfl) (.tmp rfl)) rfl (lt_b rfl) ?_
  refine GoT.q rfl (QEx.subK rfl (.tmp rfl) (.tmp rfl)) rfl (lt_b rfl) ?_
  refine GoT.q rfl (QEx.cal0 (r := (iAV r11)) [(iAV (w64 ((w64 (x5.X * x10.Y)) - (w64 (x5.Y * x10.X))))), (iAV 65536)] rfl Tryz.call122 (.cons (.tmp rfl) (.cons .con .nil)) (ref01_RoundDiv_ok hr11) rfl rfl) rfl (lt_b rfl) ?_
  refine GoT.q rfl (QEx.assign rfl (.tmp rfl)) rfl (lt_b rfl) ?_
  refine GoT.nil ?_
  refine Wp.ret ?_
  cases h
  exact LeafQ.ret [] (by decide) (.cons (.tmp rfl) .nil) rfl
theorem ref11_Area_ok {vertices : List Vec} {r : Int} (h : ref11_Area vertices = some r) : FnR Tryz.prog 91 [((slAV 2 Vec.av) vertices)] (iAV r) := by
  refine FnR.intro' (fn := Tryz.f91) (N := 22) Tryz.func91 rfl rfl (Nat.le_of_ble_eq_true rfl) [5, 10, 16] ?_
  refine Wp.seq ?_
  refine Wp.region ?_
  refine GoT.q rfl (QEx.as (iAV 0) (QEx.assign rfl .con)) rfl (lt_b rfl) ?_
  refine GoT.nil ?_
  refine Wp.seq ?_
  refine bind_e h fun r1 hr1 h => ?_
  refine Wp.seq ?_
  refine Wp.region ?_
  refine GoT.q rfl (QEx.move rfl (.tmp rfl)) rfl (lt_b rfl) ?_
  refine GoT.q rfl (QEx.cal0 (r := (boolAV r1)) [((slAV 2 Vec.av) vertices)] rfl Tryz.call89 (.cons (.tmp rfl) .nil) (ref11_IsConvex_ok hr1) rfl rfl) rfl (lt_b rfl) ?_
  refine GoT.q rfl (QEx.notK rfl (.tmp rfl)) rfl (lt_b rfl) ?_
  refine GoT.nil ?_
  refine Wp.condS h rfl (fun h => ?_) (fun h => ?_)
  · refine Wp.seq ?_
    refine Wp.region ?_
    refine GoT.q rfl (QEx.as (iAV 0) (QEx.assign rfl .con)) rfl (lt_b rfl) ?_
    refine GoT.nil ?_
    refine Wp.ret ?_
    cases h
    exact LeafQ.ret [] (by decide) (.cons (.tmp rfl) .nil) rfl
  · refine Wp.skip ?_
    refine Wp.seq ?_
    refine Wp.region ?_
    refine GoT.q rfl (QEx.as (iAV 0) (QEx.assign rfl .con)) rfl (lt_b rfl) ?_
    refine GoT.nil ?_
    refine Wp.join1 (fun v2 => ⟨[(3, (iAV v2))], [], [5, 10, 16]⟩) (fun v2 => ref11_Area_j2 v2 = some r) ?_ ?_
    · intro v2 h
      refine bind_e h fun r8 hr8 h => ?_
      refine Wp.seq ?_
      refine Wp.region ?_
      refine GoT.q rfl (QEx.move rfl (.tmp rfl)) rfl (lt_b rfl) ?_
      refine GoT.q rfl (QEx.cal0 (r := (iAV r8)) [(iAV v2), (iAV 2)] rfl Tryz.call122 (.cons (.tmp rfl) (.cons .con .nil)) (ref01_RoundDiv_ok hr8) rfl rfl) rfl (lt_b rfl) ?_
      refine GoT.q rfl (QEx.assign rfl (.tmp rfl)) rfl (lt_b rfl) ?_
      refine GoT.nil ?_
      refine Wp.ret ?_
      cases h
      exact LeafQ.ret [] (by decide) (.cons (.tmp rfl) .nil) rfl
    · refine Wp.seq ?_
      refine Wp.region ?_
      refine GoT.q rfl (QEx.as (iAV 1) (QEx.assign rfl .con)) rfl (lt_b rfl) ?_
      refine GoT.nil ?_
      refine Wp.block ?_
      refine Wp.loop2 (fun v3 v4 => ⟨[(0, ((slAV 2 Vec.av) vertices)), (3, (iAV v3)), (4, (iAV v4))], [], [5, 10, 16]⟩) (fun n v3 v4 => ref11_Area_l1 vertices ref11_Area_j2 n v3 v4 = some r) fuel 0 1 [] [] h (LS.to.mk (.b rfl rfl (.b rfl rfl (.b rfl rfl .n))) .n rfl) ?_
      rintro (_ | n2) v3 v4 h
      · exact none_e h
      rw [ref11_Area_l1] at h
      refine Wp.seq ?_
      refine Wp.seq ?_
      refine Wp.region ?_
      refine GoT.q rfl (QEx.move rfl (.tmp rfl)) rfl (lt_b rfl) ?_
      refine GoT.q rfl (QEx.addK rfl (.tmp rfl) .con) rfl (lt_b rfl) ?_
      refine GoT.q rfl (QEx.move rfl (.tmp rfl)) rfl (lt_b rfl) ?_
      refine GoT.q rfl (QEx.lenL rfl ⟨_, uT31⟩ (.tmp rfl)) rfl (lt_b rfl) ?_
      refine GoT.q rfl (QEx.lssK rfl (.tmp rfl) (.tmp rfl)) rfl (lt_b rfl) ?_
      refine GoT.nil ?_
      refine Wp.condS h rfl (fun h => ?_) (fun h => ?_)
      · refine Wp.skip ?_
        refine Wp.seq ?_
        refine Wp.block ?_
        refine bind_e h fun r5 hr5 h => ?_
        refine let_e h fun x6 hx6 h => ?_
        refine Wp.region ?_
        refine GoT.q rfl (QEx.move rfl (.tmp rfl)) rfl (lt_b rfl) ?_
        refine GoT.q rfl (QEx.move rfl (.tmp rfl)) rfl (lt_b rfl) ?_
        refine GoT.q rfl (QEx.move rfl (.tmp rfl)) rfl (lt_b rfl) ?_
        refine GoT.q rfl (QEx.cal0 (r := (iAV r5)) [((slAV 2 Vec.av) vertices), (iAV v4)] rfl Tryz.call135 (.cons (.tmp rfl) (.cons (.tmp rfl) .nil)) (ref11_cross_ok hr5) rfl rfl) rfl (lt_b rfl) ?_
        refine GoT.q rfl (QEx.addK rfl (.tmp rfl) (.tmp rfl)) rfl (lt_b rfl) ?_
        refine GoT.q rfl (QEx.eq (QEx.assign rfl (.tmp rfl)) (congrArg iAV hx6)) rfl (lt_b rfl) ?_
        refine GoT.nil ?_
        refine let_e h fun x7 hx7 h => ?_
        refine Wp.region ?_
        refine GoT.q rfl (QEx.move rfl (.tmp rfl)) rfl (lt_b rfl) ?_
        refine GoT.q rfl (QEx.addK rfl (.tmp rfl) .con) rfl (lt_b rfl) ?_
        refine GoT.q rfl (QEx.eq (QEx.assign rfl (.tmp rfl)) (congrArg iAV hx7)) rfl (lt_b rfl) ?_
        refine GoT.nil ?_
        exact Round2.mk x6 x7 [] [] h (LS.to.mk (.b rfl rfl (.b rfl rfl (.b rfl rfl .n))) .n rfl)
      · refine Wp.exit ?_
        exact Joined1.mk v3 [] [] h (LS.to.mk (.b rfl rfl .n) .n rfl)
theorem ref12_Validate_ok {s : Shape} {r : Int} (h : ref12_Validate s = some r) : FnR Tryz.prog 39 [(Shape.av s)] (iAV r) := by
  refine FnR.intro' (fn := Tryz.f39) (N := 100) Tryz.func39 rfl rfl (Nat.le_of_ble_eq_true rfl) [1] ?_
  refine Wp.seq ?_
  refine Wp.region ?_
  refine GoT.a rfl (AEx.bx (Z := (Shape.cells s)) rfl (.tmp rfl) rfl rfl rfl rfl) rfl (lt_b rfl) ?_
  refine GoT.q rfl (QEx.as (iAV 0) (QEx.assign rfl .con)) rfl (lt_b rfl) ?_
  refine GoT.nil ?_
  refine Wp.seq ?_
  refine Wp.seq ?_
  refine Wp.region ?_
  refine GoT.q rfl (QEx.fldP 0 rfl uT33 rfl ts30 rfl (.tmp rfl) rfl) rfl (lt_b rfl) ?_
  refine GoT.qr rfl rfl (QEx.ldP1 (Shape.cells s) (iAV s.Kind) rfl ag30 (.tmp rfl) rfl) rfl (lt_b rfl) ?_
  refine GoT.q rfl (QEx.lssK rfl (.tmp rfl) .con) rfl (lt_b rfl) ?_
  refine GoT.q rfl (QEx.move rfl (.tmp rfl)) rfl (lt_b rfl) ?_
  refine GoT.g rfl rfl rfl (fun hg => QEx.fldP 0 rfl uT33 rfl ts30 rfl (.tmp rfl) rfl) rfl (lt_b rfl) ?_
  refine GoT.gr rfl rfl rfl rfl (fun hg => QEx.ldP1 (Shape.cells s) (iAV s.Kind) rfl ag30 (.opt (.tmp rfl) hg) rfl) rfl (lt_b rfl) ?_
  refine GoT.g rfl rfl rfl (fun hg => QEx.gtrK rfl (.opt (.tmp rfl) hg) .con) rfl (lt_b rfl) ?_
  refine GoT.q rfl (QEx.pickK rfl (.tmp rfl) (fun hp => .con) (fun hp => (.opt (.tmp rfl) (beq_f hp)))) rfl (lt_b rfl) ?_
  refine GoT.nil ?_
  refine Wp.condS h rfl (fun h => ?_) (fun h => ?_)
  · refine Wp.seq ?_
    refine Wp.region ?_
    refine GoT.q rfl (QEx.as (iAV 10) (QEx.assign rfl .con)) rfl (lt_b rfl) ?_
    refine GoT.nil ?_
    refine Wp.ret ?_
    cases h
    exact LeafQ.ret [] (by decide) (.cons (.tmp rfl) .nil) rfl
  · refine Wp.skip ?_
    refine Wp.seq ?_
    refine let_e h fun r1 hr1 h => ?_
    refine Wp.seq ?_
    refine Wp.region ?_
    refine GoT.qr rfl rfl (QEx.ldP (Shape.cells s) (Shape.av s) rfl ag33 ts33 (.tmp rfl) (le_b rfl) rfl) rfl (lt_b rfl) ?_
    refine GoT.q rfl (QEx.cal0 (r := (boolAV r1)) [(Shape.av s)] rfl Tryz.call86 (.cons (.tmp rfl) .nil) (ref12_countMatches_ok hr1) rfl rfl) rfl (lt_b rfl) ?_
    refine GoT.q rfl (QEx.notK rfl (.tmp rfl)) rfl (lt_b rfl) ?_
    refine GoT.nil ?_
    refine Wp.condS h rfl (fun h => ?_) (fun h => ?_)
    · refine Wp.seq ?_
      refine Wp.region ?_
      refine GoT.q rfl (QEx.as (iAV 11) (QEx.assign rfl .con)) rfl (lt_b rfl) ?_
      refine GoT.nil ?_
      refine Wp.ret ?_
      cases h
      exact LeafQ.ret [] (by decide) (.cons (.tmp rfl) .nil) rfl
    · refine Wp.skip ?_
      refine Wp.join0 (⟨[(1, (.ptr 1 0))], [(1, .cells (Shape.cells s))], []⟩) ((ref12_Validate_j2 s) = some r) ?_ ?_
      · intro h
        refine Wp.seq ?_
        refine Wp.seq ?_
        refine Wp.region ?_
        refine GoT.q rfl (QEx.fldP 0 rfl uT33 rfl ts30 rfl (.tmp rfl) rfl) rfl (lt_b rfl) ?_
        refine GoT.qr rfl rfl (QEx.ldP1 (Shape.cells s) (iAV s.Kind) rfl ag30 (.tmp rfl) rfl) rfl (lt_b rfl) ?_
        refine GoT.q rfl (QEx.eqlK rfl (.tmp rfl) .con) rfl (lt_b rfl) ?_
        refine GoT.q rfl (QEx.move rfl (.tmp rfl)) rfl (lt_b rfl) ?_
        refine GoT.g rfl rfl rfl (fun hg => QEx.fldP 1 rfl uT33 rfl ts3 rfl (.tmp rfl) rfl) rfl (lt_b rfl) ?_
        refine GoT.gr rfl rfl rfl rfl (fun hg => QEx.ldP1 (Shape.cells s) (iAV s.Radius) rfl ag3 (.opt (.tmp rfl) hg) rfl) rfl (lt_b rfl) ?_
        refine GoT.g rfl rfl rfl (fun hg => QEx.neqK rfl (.opt (.tmp rfl) hg) .con) rfl (lt_b rfl) ?_
        refine GoT.q rfl (QEx.pickK rfl (.tmp rfl) (fun hp => (.opt (.tmp rfl) (beq_t hp))) (fun hp => .con)) rfl (lt_b rfl) ?_
        refine GoT.q rfl (QEx.move rfl (.tmp rfl)) rfl (lt_b rfl) ?_
        refine GoT.g rfl rfl rfl (fun hg => QEx.fldP 0 rfl uT33 rfl ts30 rfl (.tmp rfl) rfl) rfl (lt_b rfl) ?_
        refine GoT.gr rfl rfl rfl rfl (fun hg => QEx.ldP1 (Shape.cells s) (iAV s.Kind) rfl ag30 (.opt (.tmp rfl) hg) rfl) rfl (lt_b rfl) ?_
        refine GoT.g rfl rfl rfl (fun hg => QEx.neqK rfl (.opt (.tmp rfl) hg) .con) rfl (lt_b rfl) ?_
        refine GoT.g rfl rfl rfl (fun hg => QEx.move rfl (.opt (.tmp rfl) hg)) rfl (lt_b rfl) ?_
        refine GoT.g2 rfl rfl rfl (fun hg => QEx.fldP 1 rfl uT33 rfl ts3 rfl (.tmp rfl) rfl) rfl (lt_b rfl) ?_
        refine GoT.gr2 rfl rfl rfl rfl (fun hg => QEx.ldP1 (Shape.cells s) (iAV s.Radius) rfl ag3 (.opt (.tmp rfl) hg) rfl) rfl (lt_b rfl) ?_
        refine GoT.g2 rfl rfl rfl (fun hg => QEx.lssK rfl (.opt (.tmp rfl) hg) .con) rfl (lt_b rfl) ?_
        refine GoT.g2 rfl rfl rfl (fun hg => QEx.move rfl (.opt (.tmp rfl) hg)) rfl (lt_b rfl) ?_
        refine GoT.g2 rfl rfl rfl (fun hg => QEx.fldP 1 rfl uT33 rfl ts3 rfl (.tmp rfl) rfl) rfl (lt_b rfl) ?_
        refine GoT.gr2 rfl rfl rfl rfl (fun hg => QEx.ldP1 (Shape.cells s) (iAV s.Radius) rfl ag3 (.opt (.tmp rfl) hg) rfl) rfl (lt_b rfl) ?_
        refine GoT.g2 rfl rfl rfl (fun hg => QEx.gtrK rfl (.opt (.tmp rfl) hg) .con) rfl (lt_b rfl) ?_
        refine GoT.g2 rfl rfl rfl (fun hg => QEx.pickK rfl (.opt (.tmp rfl) hg) (fun hp => .con) (fun hp => (.opt (.tmp rfl) (and_i hg (beq_f hp))))) rfl (lt_b rfl) ?_
        refine GoT.g rfl rfl rfl (fun hg => QEx.pickK rfl (.opt (.tmp rfl) hg) (fun hp => (.opt (.tmp rfl) (and_i hg (beq_t hp)))) (fun hp => .con)) rfl (lt_b rfl) ?_
        refine GoT.q rfl (QEx.pickK rfl (.tmp rfl) (fun hp => .con) (fun hp => (.opt (.tmp rfl) (beq_f hp)))) rfl (lt_b rfl) ?_
        refine GoT.nil ?_
        refine Wp.condS h rfl (fun h => ?_) (fun h => ?_)
        · refine Wp.seq ?_
          refine Wp.region ?_
          refine GoT.q rfl (QEx.as (iAV 6) (QEx.assign rfl .con)) rfl (lt_b rfl) ?_
          refine GoT.nil ?_
          refine Wp.ret ?_
          cases h
          exact LeafQ.ret [] (by decide) (.cons (.tmp rfl) .nil) rfl
        · refine Wp.skip ?_
          refine Wp.seq ?_
          refine chk_e h fun c8 h => ?_
          refine chk_e h fun c9 h => ?_
          refine let_e h fun r10 hr10 h => ?_
          refine bind_e h fun r11 hr11 h => ?_
          refine Wp.seq ?_
          refine Wp.drawn2 (n0 := 16) [] mixed ?_
          refine GoD.q rfl (QEx.fldP 0 rfl uT33 rfl ts30 rfl (.tmp rfl) rfl) rfl (lt_b rfl) ?_
          refine GoD.qr rfl rfl (QEx.ldP1 (Shape.cells s) (iAV s.Kind) rfl ag30 (.tmp rfl) rfl) rfl (lt_b rfl) ?_
          refine GoD.q rfl (QEx.eqlK rfl (.tmp rfl) .con) rfl (lt_b rfl) ?_
          refine GoD.q rfl (QEx.move rfl (.tmp rfl)) rfl (lt_b rfl) ?_
          refine GoD.g rfl rfl rfl (fun hg => QEx.fldP 2 rfl uT33 rfl ts31 rfl (.tmp rfl) rfl) rfl (lt_b rfl) ?_
          refine GoD.gr rfl rfl rfl rfl (fun hg => QEx.ldP1 (Shape.cells s) ((slAV 2 Vec.av) s.Vertices) rfl ag31 (.opt (.tmp rfl) hg) rfl) rfl (lt_b rfl) ?_
          refine GoD.g rfl rfl rfl (fun hg => QEx.as (.cptr (Vec.cells (ix s.Vertices 1))) (QEx.idxL (E := Vec.av) rfl et31 (.opt (.tmp rfl) hg) .con (c8 hg))) rfl (lt_b rfl) ?_
          refine GoD.g rfl rfl rfl (fun hg => QEx.ldC (x := (Vec.av (ix s.Vertices 1))) rfl ag24 ts24 (.opt (.tmp rfl) hg) (.inl ⟨rfl, rfl, rfl⟩)) rfl (lt_b rfl) ?_
          refine GoD.g rfl rfl rfl (fun hg => QEx.fldP 2 rfl uT33 rfl ts31 rfl (.tmp rfl) rfl) rfl (lt_b rfl) ?_
          refine GoD.gr rfl rfl rfl rfl (fun hg => QEx.ldP1 (Shape.cells s) ((slAV 2 Vec.av) s.Vertices) rfl ag31 (.opt (.tmp rfl) hg) rfl) rfl (lt_b rfl) ?_
          refine GoD.g rfl rfl rfl (fun hg => QEx.as (.cptr (Vec.cells (ix s.Vertices 0))) (QEx.idxL (E := Vec.av) rfl et31 (.opt (.tmp rfl) hg) .con (c9 hg))) rfl (lt_b rfl) ?_
          refine GoD.g rfl rfl rfl (fun hg => QEx.ldC (x := (Vec.av (ix s.Vertices 0))) rfl ag24 ts24 (.opt (.tmp rfl) hg) (.inl ⟨rfl, rfl, rfl⟩)) rfl (lt_b rfl) ?_
          refine GoD.g rfl rfl rfl (fun hg => QEx.cal0 (r := (Vec.av r10)) [(Vec.av (ix s.Vertices 1)), (Vec.av (ix s.Vertices 0))] rfl Tryz.call56 (.cons (.opt (.tmp rfl) hg) (.cons (.opt (.tmp rfl) hg) .nil)) (ref03_Sub_ok hr10) rfl rfl) rfl (lt_b rfl) ?_
          refine GoD.g rfl rfl rfl (fun hg => QEx.cal0 (r := (iAV r11)) [(Vec.av r10)] rfl Tryz.call88 (.cons (.opt (.tmp rfl) hg) .nil) (ref03_Length_ok (gcall hr11 hg)) rfl rfl) rfl (lt_b rfl) ?_
          refine GoD.g rfl rfl rfl (fun hg => QEx.lssK rfl (.opt (.tmp rfl) hg) .con) rfl (lt_b rfl) ?_
          refine GoD.q rfl (QEx.pickK rfl (.tmp rfl) (fun hp => (.opt (.tmp rfl) (beq_t hp))) (fun hp => .con)) rfl (lt_b rfl) ?_
          refine GoD.nil ⟨by kernel_rfl, by kernel_rfl, by kernel_rfl, by kernel_rfl, by kernel_rfl, ?_⟩
          refine GoT.nil ?_
          refine Wp.condS h rfl (fun h => ?_) (fun h => ?_)
          · refine Wp.seq ?_
            refine Wp.region ?_
            refine GoT.q rfl (QEx.as (iAV 12) (QEx.assign rfl .con)) rfl (lt_b rfl) ?_
            refine GoT.nil ?_
            refine Wp.ret ?_
            cases h
            exact LeafQ.ret [] (by decide) (.cons (.tmp rfl) .nil) rfl
          · refine Wp.skip ?_
            refine Wp.seq ?_
            refine bind_e h fun r12 hr12 h => ?_
            refine bind_e h fun r13 hr13 h => ?_
            refine bind_e h fun r14 hr14 h => ?_
            refine Wp.seq ?_
            refine Wp.region ?_
            refine GoT.q rfl (QEx.fldP 0 rfl uT33 rfl ts30 rfl (.tmp rfl) rfl) rfl (lt_b rfl) ?_
            refine GoT.qr rfl rfl (QEx.ldP1 (Shape.cells s) (iAV s.Kind) rfl ag30 (.tmp rfl) rfl) rfl (lt_b rfl) ?_
            refine GoT.q rfl (QEx.eqlK rfl (.tmp rfl) .con) rfl (lt_b rfl) ?_
            refine GoT.q rfl (QEx.move rfl (.tmp rfl)) rfl (lt_b rfl) ?_
            refine GoT.g rfl rfl rfl (fun hg => QEx.fldP 2 rfl uT33 rfl ts31 rfl (.tmp rfl) rfl) rfl (lt_b rfl) ?_
            refine GoT.gr rfl rfl rfl rfl (fun hg => QEx.ldP1 (Shape.cells s) ((slAV 2 Vec.av) s.Vertices) rfl ag31 (.opt (.tmp rfl) hg) rfl) rfl (lt_b rfl) ?_
            refine GoT.g rfl rfl rfl (fun hg => QEx.cal0 (r := (boolAV r12)) [((slAV 2 Vec.av) s.Vertices)] rfl Tryz.call89 (.cons (.opt (.tmp rfl) hg) .nil) (ref11_IsConvex_ok (gcall hr12 hg)) rfl rfl) rfl (lt_b rfl) ?_
            refine GoT.g rfl rfl rfl (fun hg => QEx.notK rfl (.opt (.tmp rfl) hg)) rfl (lt_b rfl) ?_
            refine GoT.g rfl rfl rfl (fun hg => QEx.move rfl (.opt (.tmp rfl) hg)) rfl (lt_b rfl) ?_
            refine GoT.g2 rfl rfl rfl (fun hg => QEx.fldP 2 rfl uT33 rfl ts31 rfl (.tmp rfl) rfl) rfl (lt_b rfl) ?_
            refine GoT.gr2 rfl rfl rfl rfl (fun hg => QEx.ldP1 (Shape.cells s) ((slAV 2 Vec.av) s.Vertices) rfl ag31 (.opt (.tmp rfl) hg) rfl) rfl (lt_b rfl) ?_
            refine GoT.g2 rfl rfl rfl (fun hg => QEx.cal0 (r := (iAV r13)) [((slAV 2 Vec.av) s.Vertices)] rfl Tryz.call90 (.cons (.opt (.tmp rfl) hg) .nil) (ref11_ShortestEdge_ok (gcall hr13 hg)) rfl rfl) rfl (lt_b rfl) ?_
            refine GoT.g2 rfl rfl rfl (fun hg => QEx.lssK rfl (.opt (.tmp rfl) hg) .con) rfl (lt_b rfl) ?_
            refine GoT.g rfl rfl rfl (fun hg => QEx.pickK rfl (.opt (.tmp rfl) hg) (fun hp => .con) (fun hp => (.opt (.tmp rfl) (and_i hg (beq_f hp))))) rfl (lt_b rfl) ?_
            refine GoT.g rfl rfl rfl (fun hg => QEx.move rfl (.opt (.tmp rfl) hg)) rfl (lt_b rfl) ?_
            refine GoT.g2 rfl rfl rfl (fun hg => QEx.fldP 2 rfl uT33 rfl ts31 rfl (.tmp rfl) rfl) rfl (lt_b rfl) ?_
            refine GoT.gr2 rfl rfl rfl rfl (fun hg => QEx.ldP1 (Shape.cells s) ((slAV 2 Vec.av) s.Vertices) rfl ag31 (.opt (.tmp rfl) hg) rfl) rfl (lt_b rfl) ?_
            refine GoT.g2 rfl rfl rfl (fun hg => QEx.cal0 (r := (iAV r14)) [((slAV 2 Vec.av) s.Vertices)] rfl Tryz.call91 (.cons (.opt (.tmp rfl) hg) .nil) (ref11_Area_ok (gcall hr14 hg)) rfl rfl) rfl (lt_b rfl) ?_
            refine GoT.g2 rfl rfl rfl (fun hg => QEx.lssK rfl (.opt (.tmp rfl) hg) .con) rfl (lt_b rfl) ?_
            refine GoT.g rfl rfl rfl (fun hg => QEx.pickK rfl (.opt (.tmp rfl) hg) (fun hp => .con) (fun hp => (.opt (.tmp rfl) (and_i hg (beq_f hp))))) rfl (lt_b rfl) ?_
            refine GoT.q rfl (QEx.pickK rfl (.tmp rfl) (fun hp => (.opt (.tmp rfl) (beq_t hp))) (fun hp => .con)) rfl (lt_b rfl) ?_
            refine GoT.nil ?_
            refine Wp.condS h rfl (fun h => ?_) (fun h => ?_)
            · refine Wp.seq ?_
              refine Wp.region ?_
              refine GoT.q rfl (QEx.as (iAV 12) (QEx.assign rfl .con)) rfl (lt_b rfl) ?_
              refine GoT.nil ?_
              refine Wp.ret ?_
              cases h
              exact LeafQ.ret [] (by decide) (.cons (.tmp rfl) .nil) rfl
            · refine Wp.skip ?_
              refine Wp.seq ?_
              refine Wp.region ?_
              refine GoT.q rfl (QEx.as (iAV 0) (QEx.assign rfl .con)) rfl (lt_b rfl) ?_
              refine GoT.nil ?_
              refine Wp.ret ?_
              cases h
              exact LeafQ.ret [] (by decide) (.cons (.tmp rfl) .nil) rfl
      · refine Wp.seq ?_
        refine Wp.region ?_
        refine GoT.q rfl (QEx.as (iAV 0) (QEx.assign rfl .con)) rfl (lt_b rfl) ?_
        refine GoT.nil ?_
        refine Wp.block ?_
        refine Wp.loop1 (fun v2 => ⟨[(1, (.ptr 1 0)), (3, (iAV v2))], [(1, .cells (Shape.cells s))], []⟩) (fun n v2 => ref12_Validate_l1 s (ref12_Validate_j2 s) n v2 = some r) fuel 0 [] [] h (LS.to.mk (.r rfl rfl (.b rfl rfl .n)) (.b rfl rfl rfl .n) rfl) ?_
        rintro (_ | n2) v2 h
        · exact none_e h
        rw [ref12_Validate_l1] at h
        refine Wp.seq ?_
        refine Wp.seq ?_
        refine Wp.region ?_
        refine GoT.q rfl (QEx.move rfl (.tmp rfl)) rfl (lt_b rfl) ?_
        refine GoT.q rfl (QEx.fldP 2 rfl uT33 rfl ts31 rfl (.tmp rfl) rfl) rfl (lt_b rfl) ?_
        refine GoT.qr rfl rfl (QEx.ldP1 (Shape.cells s) ((slAV 2 Vec.av) s.Vertices) rfl ag31 (.tmp rfl) rfl) rfl (lt_b rfl) ?_
        refine GoT.q rfl (QEx.lenL rfl ⟨_, uT31⟩ (.tmp rfl)) rfl (lt_b rfl) ?_
        refine GoT.q rfl (QEx.lssK rfl (.tmp rfl) (.tmp rfl)) rfl (lt_b rfl) ?_
        refine GoT.nil ?_
        refine Wp.condS h rfl (fun h => ?_) (fun h => ?_)
        · refine Wp.skip ?_
          refine Wp.seq ?_
          refine Wp.block ?_
          refine chk_e h fun c3 h => ?_
          refine let_e h fun r4 hr4 h => ?_
          refine chk_e h fun c5 h => ?_
          refine let_e h fun r6 hr6 h => ?_
          refine Wp.seq ?_
          refine Wp.region ?_
          refine GoT.q rfl (QEx.fldP 2 rfl uT33 rfl ts31 rfl (.tmp rfl) rfl) rfl (lt_b rfl) ?_
          refine GoT.qr rfl rfl (QEx.ldP1 (Shape.cells s) ((slAV 2 Vec.av) s.Vertices) rfl ag31 (.tmp rfl) rfl) rfl (lt_b rfl) ?_
          refine GoT.q rfl (QEx.move rfl (.tmp rfl)) rfl (lt_b rfl) ?_
          refine GoT.q rfl (QEx.as (.cptr (Vec.cells (ix s.Vertices v2))) (QEx.idxL (E := Vec.av) rfl et31 (.tmp rfl) (.tmp rfl) c3)) rfl (lt_b rfl) ?_
          refine GoT.q rfl (QEx.fldC [(iAV ((ix s.Vertices v2).X))] rfl uT24 rfl ts3 rfl (.tmp rfl) rfl) rfl (lt_b rfl) ?_
          refine GoT.q rfl (QEx.ldC (x := (iAV ((ix s.Vertices v2).X))) rfl ag3 ts3 (.tmp rfl) (.inr ⟨rfl, rfl⟩)) rfl (lt_b rfl) ?_
          refine GoT.q rfl (QEx.cal0 (r := (boolAV r4)) [(iAV ((ix s.Vertices v2).X)), (iAV 1048576)] rfl Tryz.call87 (.cons (.tmp rfl) (.cons .con .nil)) (ref12_within_ok hr4) rfl rfl) rfl (lt_b rfl) ?_
          refine GoT.q rfl (QEx.notK rfl (.tmp rfl)) rfl (lt_b rfl) ?_
          refine GoT.q rfl (QEx.move rfl (.tmp rfl)) rfl (lt_b rfl) ?_
          refine GoT.g rfl rfl rfl (fun hg => QEx.fldP 2 rfl uT33 rfl ts31 rfl (.tmp rfl) rfl) rfl (lt_b rfl) ?_
          refine GoT.gr rfl rfl rfl rfl (fun hg => QEx.ldP1 (Shape.cells s) ((slAV 2 Vec.av) s.Vertices) rfl ag31 (.opt (.tmp rfl) hg) rfl) rfl (lt_b rfl) ?_
          refine GoT.g rfl rfl rfl (fun hg => QEx.move rfl (.tmp rfl)) rfl (lt_b rfl) ?_
          refine GoT.g rfl rfl rfl (fun hg => QEx.as (.cptr (Vec.cells (ix s.Vertices v2))) (QEx.idxL (E := Vec.av) rfl et31 (.opt (.tmp rfl) hg) (.opt (.tmp rfl) hg) (c5 hg))) rfl (lt_b rfl) ?_
          refine GoT.g rfl rfl rfl (fun hg => QEx.fldC [(iAV ((ix s.Vertices v2).Y))] rfl uT24 rfl ts3 rfl (.opt (.tmp rfl) hg) rfl) rfl (lt_b rfl) ?_
          refine GoT.g rfl rfl rfl (fun hg => QEx.ldC (x := (iAV ((ix s.Vertices v2).Y))) rfl ag3 ts3 (.opt (.tmp rfl) hg) (.inr ⟨rfl, rfl⟩)) rfl (lt_b rfl) ?_
          refine GoT.g rfl rfl rfl (fun hg => QEx.cal0 (r := (boolAV r6)) [(iAV ((ix s.Vertices v2).Y)), (iAV 1048576)] rfl Tryz.call87 (.cons (.opt (.tmp rfl) hg) (.cons .con .nil)) (ref12_within_ok hr6) rfl rfl) rfl (lt_b rfl) ?_
          refine GoT.g rfl rfl rfl (fun hg => QEx.notK rfl (.opt (.tmp rfl) hg)) rfl (lt_b rfl) ?_
          refine GoT.q rfl (QEx.pickK rfl (.tmp rfl) (fun hp => .con) (fun hp => (.opt (.tmp rfl) (beq_f hp)))) rfl (lt_b rfl) ?_
          refine GoT.nil ?_
          refine Wp.condS h rfl (fun h => ?_) (fun h => ?_)
          · refine Wp.seq ?_
            refine Wp.region ?_
            refine GoT.q rfl (QEx.as (iAV 6) (QEx.assign rfl .con)) rfl (lt_b rfl) ?_
            refine GoT.nil ?_
            refine Wp.ret ?_
            cases h
            exact LeafQ.ret [] (by decide) (.cons (.tmp rfl) .nil) rfl
          · refine Wp.skip ?_
            refine let_e h fun x7 hx7 h => ?_
            refine Wp.region ?_
            refine GoT.q rfl (QEx.move rfl (.tmp rfl)) rfl (lt_b rfl) ?_
            refine GoT.q rfl (QEx.addK rfl (.tmp rfl) .con) rfl (lt_b rfl) ?_
            refine GoT.q rfl (QEx.eq (QEx.assign rfl (.tmp rfl)) (congrArg iAV hx7)) rfl (lt_b rfl) ?_
            refine GoT.nil ?_
            exact Round1.mk x7 [] [] h (LS.to.mk (.r rfl rfl (.b rfl rfl .n)) (.b rfl rfl rfl .n) rfl)
        · refine Wp.exit ?_
          exact Joined0.mk [] [] h (LS.to.mk (.r rfl rfl .n) (.b rfl rfl rfl .n) rfl)
theorem ref02_Normalize_ok {a : Int} {r : Int} (h : ref02_Normalize a = r) : FnR Tryz.prog 169 [(iAV a)] (iAV r) := by
  refine FnR.intro' (fn := Tryz.f169) (N := 15) Tryz.func169 rfl rfl (Nat.le_of_ble_eq_true rfl) [] ?_
  refine Wp.seq ?_
  refine Wp.region ?_
  refine GoT.q rfl (QEx.as (iAV 0) (QEx.assign rfl .con)) rfl (lt_b rfl) ?_
  refine GoT.nil ?_
  refine let_e h fun x1 hx1 h => ?_
  refine Wp.seq ?_
  refine Wp.region ?_
  refine GoT.q rfl (QEx.move rfl (.tmp rfl)) rfl (lt_b rfl) ?_
  refine GoT.q rfl (QEx.remK rfl (.tmp rfl) .con (by decide)) rfl (lt_b rfl) ?_
  refine GoT.q rfl (QEx.eq (QEx.assign rfl (.tmp rfl)) (congrArg iAV hx1)) rfl (lt_b rfl) ?_
  refine GoT.nil ?_
  refine Wp.join1 (fun v2 => ⟨[(3, (iAV v2))], [], []⟩) (fun v2 => ref02_Normalize_j1 v2 = r) ?_ ?_
  · intro v2 h
    refine Wp.seq ?_
    refine Wp.seq ?_
    refine Wp.region ?_
    refine GoT.q rfl (QEx.move rfl (.tmp rfl)) rfl (lt_b rfl) ?_
    refine GoT.q rfl (QEx.lssK rfl (.tmp rfl) .con) rfl (lt_b rfl) ?_
    refine GoT.nil ?_
    refine Wp.condS h rfl (fun h => ?_) (fun h => ?_)
    · refine let_e h fun x4 hx4 h => ?_
      refine Wp.region ?_
      refine GoT.q rfl (QEx.move rfl (.tmp rfl)) rfl (lt_b rfl) ?_
      refine GoT.q rfl (QEx.addK rfl (.tmp rfl) .con) rfl (lt_b rfl) ?_
      refine GoT.q rfl (QEx.eq (QEx.assign rfl (.tmp rfl)) (congrArg iAV hx4)) rfl (lt_b rfl) ?_
      refine GoT.nil ?_
      refine Wp.seq ?_
      refine Wp.region ?_
      refine GoT.q rfl (QEx.move rfl (.tmp rfl)) rfl (lt_b rfl) ?_
      refine GoT.q rfl (QEx.assign rfl (.tmp rfl)) rfl (lt_b rfl) ?_
      refine GoT.nil ?_
      refine Wp.ret ?_
      cases h
      exact LeafQ.ret [] (by decide) (.cons (.tmp rfl) .nil) rfl
    · refine Wp.skip ?_
      refine Wp.seq ?_
      refine Wp.region ?_
      refine GoT.q rfl (QEx.move rfl (.tmp rfl)) rfl (lt_b rfl) ?_
      refine GoT.q rfl (QEx.assign rfl (.tmp rfl)) rfl (lt_b rfl) ?_
      refine GoT.nil ?_
      refine Wp.ret ?_
      cases h
      exact LeafQ.ret [] (by decide) (.cons (.tmp rfl) .nil) rfl
  · refine Wp.seq ?_
    refine Wp.region ?_
    refine GoT.q rfl (QEx.move rfl (.tmp rfl)) rfl (lt_b rfl) ?_
    refine GoT.q rfl (QEx.geqK rfl (.tmp rfl) .con) rfl (lt_b rfl) ?_
    refine GoT.nil ?_
    refine Wp.condS h rfl (fun h => ?_) (fun h => ?_)
    · refine let_e h fun x3 hx3 h => ?_
      refine Wp.region ?_
      refine GoT.q rfl (QEx.move rfl (.tmp rfl)) rfl (lt_b rfl) ?_
      refine GoT.q rfl (QEx.subK rfl (.tmp rfl) .con) rfl (lt_b rfl) ?_
      refine GoT.q rfl (QEx.eq (QEx.assign rfl (.tmp rfl)) (congrArg iAV hx3)) rfl (lt_b rfl) ?_
      refine GoT.nil ?_
      exact Joined1.mk x3 [] [] h (LS.to.mk (.b rfl rfl .n) .n rfl)
    · refine Wp.skip ?_
      exact Joined1.mk x1 [] [] h (LS.to.mk (.b rfl rfl .n) .n rfl)
theorem ref02_abs_ok {x_0 : Int} {r : Int} (h : ref02_abs x_0 = r) : FnR Tryz.prog 168 [(iAV x_0)] (iAV r) := by
  refine FnR.intro' (fn := Tryz.f168) (N := 8) Tryz.func168 rfl rfl (Nat.le_of_ble_eq_true rfl) [] ?_
  refine Wp.seq ?_
  refine Wp.region ?_
  refine GoT.q rfl (QEx.as (iAV 0) (QEx.assign rfl .con)) rfl (lt_b rfl) ?_
  refine GoT.nil ?_
  refine Wp.seq ?_
  refine Wp.seq ?_
  refine Wp.region ?_
  refine GoT.q rfl (QEx.move rfl (.tmp rfl)) rfl (lt_b rfl) ?_
  refine GoT.q rfl (QEx.lssK rfl (.tmp rfl) .con) rfl (lt_b rfl) ?_
  refine GoT.nil ?_
  refine Wp.condS h rfl (fun h => ?_) (fun h => ?_)
  · refine let_e h fun x1 hx1 h => ?_
    refine Wp.seq ?_
    refine Wp.region ?_
    refine GoT.q rfl (QEx.move rfl (.tmp rfl)) rfl (lt_b rfl) ?_
    refine GoT.q rfl (QEx.negK rfl (.tmp rfl)) rfl (lt_b rfl) ?_
    refine GoT.q rfl (QEx.eq (QEx.assign rfl (.tmp rfl)) (congrArg iAV hx1)) rfl (lt_b rfl) ?_
    refine GoT.nil ?_
    refine Wp.ret ?_
    cases h
    exact LeafQ.ret [] (by decide) (.cons (.tmp rfl) .nil) rfl
  · refine Wp.skip ?_
    refine Wp.seq ?_
    refine Wp.region ?_
    refine GoT.q rfl (QEx.move rfl (.tmp rfl)) rfl (lt_b rfl) ?_
    refine GoT.q rfl (QEx.assign rfl (.tmp rfl)) rfl (lt_b rfl) ?_
    refine GoT.nil ?_
    refine Wp.ret ?_
    cases h
    exact LeafQ.ret [] (by decide) (.cons (.tmp rfl) .nil) rfl
theorem ref01_Div_ok {a : Int} {b : Int} {r : Int} (h : ref01_Div a b = some r) : FnR Tryz.prog 110 [(iAV a), (iAV b)] (iAV r) := by
  refine FnR.intro' (fn := Tryz.f110) (N := 34) Tryz.func110 rfl rfl (Nat.le_of_ble_eq_true rfl) [] ?_
  refine Wp.seq ?_
  refine Wp.region ?_
  refine GoT.q rfl (QEx.as (iAV 0) (QEx.assign rfl .con)) rfl (lt_b rfl) ?_
  refine GoT.nil ?_
  refine let_e h fun r1 hr1 h => ?_
  refine let_e h fun r2 hr2 h => ?_
  refine Wp.seq ?_
  refine Wp.region ?_
  refine GoT.q rfl (QEx.move rfl (.tmp rfl)) rfl (lt_b rfl) ?_
  refine GoT.q rfl (QEx.cal0 (r := (iAV r1)) [(iAV a)] rfl Tryz.call121 (.cons (.tmp rfl) .nil) (ref01_Saturate_ok hr1) rfl rfl) rfl (lt_b rfl) ?_
  refine GoT.q rfl (QEx.move rfl (.tmp rfl)) rfl (lt_b rfl) ?_
  refine GoT.q rfl (QEx.cal0 (r := (iAV r2)) [(iAV b)] rfl Tryz.call121 (.cons (.tmp rfl) .nil) (ref01_Saturate_ok hr2) rfl rfl) rfl (lt_b rfl) ?_
  refine GoT.q rfl (QEx.assign rfl (.tmp rfl)) rfl (lt_b rfl) ?_
  refine GoT.q rfl (QEx.assign rfl (.tmp rfl)) rfl (lt_b rfl) ?_
  refine GoT.nil ?_
  refine Wp.seq ?_
  refine Wp.seq ?_
  refine Wp.region ?_
  refine GoT.q rfl (QEx.move rfl (.tmp rfl)) rfl (lt_b rfl) ?_
  refine GoT.q rfl (QEx.eqlK rfl (.tmp rfl) .con) rfl (lt_b rfl) ?_
  refine GoT.q rfl (QEx.move rfl (.tmp rfl)) rfl (lt_b rfl) ?_
  refine GoT.g rfl rfl rfl (fun hg => QEx.move rfl (.tmp rfl)) rfl (lt_b rfl) ?_
  refine GoT.g rfl rfl rfl (fun hg => QEx.gtrK rfl (.opt (.tmp rfl) hg) .con) rfl (lt_b rfl) ?_
  refine GoT.q rfl (QEx.pickK rfl (.tmp rfl) (fun hp => (.opt (.tmp rfl) (beq_t hp))) (fun hp => .con)) rfl (lt_b rfl) ?_
  refine GoT.nil ?_
  refine Wp.condS h rfl (fun h => ?_) (fun h => ?_)
  · refine Wp.seq ?_
    refine Wp.region ?_
    refine GoT.q rfl (QEx.as (iAV 536870911) (QEx.assign rfl .con)) rfl (lt_b rfl) ?_
    refine GoT.nil ?_
    refine Wp.ret ?_
    cases h
    exact LeafQ.ret [] (by decide) (.cons (.tmp rfl) .nil) rfl
  · refine Wp.skip ?_
    refine Wp.seq ?_
    refine Wp.seq ?_
    refine Wp.region ?_
    refine GoT.q rfl (QEx.move rfl (.tmp rfl)) rfl (lt_b rfl) ?_
    refine GoT.q rfl (QEx.eqlK rfl (.tmp rfl) .con) rfl (lt_b rfl) ?_
    refine GoT.q rfl (QEx.move rfl (.tmp rfl)) rfl (lt_b rfl) ?_
    refine GoT.g rfl rfl rfl (fun hg => QEx.move rfl (.tmp rfl)) rfl (lt_b rfl) ?_
    refine GoT.g rfl rfl rfl (fun hg => QEx.lssK rfl (.opt (.tmp rfl) hg) .con) rfl (lt_b rfl) ?_
    refine GoT.q rfl (QEx.pickK rfl (.tmp rfl) (fun hp => (.opt (.tmp rfl) (beq_t hp))) (fun hp => .con)) rfl (lt_b rfl) ?_
    refine GoT.nil ?_
    refine Wp.condS h rfl (fun h => ?_) (fun h => ?_)
    · refine Wp.seq ?_
      refine Wp.region ?_
      refine GoT.q rfl (QEx.as (iAV (-536870911)) (QEx.assign rfl .con)) rfl (lt_b rfl) ?_
      refine GoT.nil ?_
      refine Wp.ret ?_
      cases h
      exact LeafQ.ret [] (by decide) (.cons (.tmp rfl) .nil) rfl
    · refine Wp.skip ?_
      refine Wp.seq ?_
      refine Wp.seq ?_
      refine Wp.region ?_
      refine GoT.q rfl (QEx.move rfl (.tmp rfl)) rfl (lt_b rfl) ?_
      refine GoT.q rfl (QEx.lssK rfl (.tmp rfl) .con) rfl (lt_b rfl) ?_
      refine GoT.nil ?_
      refine Wp.condS h rfl (fun h => ?_) (fun h => ?_)
      · refine let_e h fun x3 hx3 h => ?_
        refine let_e h fun x4 hx4 h => ?_
        refine Wp.region ?_
        refine GoT.q rfl (QEx.move rfl (.tmp rfl)) rfl (lt_b rfl) ?_
        refine GoT.q rfl (QEx.negK rfl (.tmp rfl)) rfl (lt_b rfl) ?_
        refine GoT.q rfl (QEx.move rfl (.tmp rfl)) rfl (lt_b rfl) ?_
        refine GoT.q rfl (QEx.negK rfl (.tmp rfl)) rfl (lt_b rfl) ?_
        refine GoT.q rfl (QEx.eq (QEx.assign rfl (.tmp rfl)) (congrArg iAV hx3)) rfl (lt_b rfl) ?_
        refine GoT.q rfl (QEx.eq (QEx.assign rfl (.tmp rfl)) (congrArg iAV hx4)) rfl (lt_b rfl) ?_
        refine GoT.nil ?_
        refine bind_e h fun r5 hr5 h => ?_
        refine let_e h fun r6 hr6 h => ?_
        refine Wp.seq ?_
        refine Wp.region ?_
        refine GoT.q rfl (QEx.move rfl (.tmp rfl)) rfl (lt_b rfl) ?_
        refine GoT.q rfl (QEx.mulK rfl (.tmp rfl) .con) rfl (lt_b rfl) ?_
        refine GoT.q rfl (QEx.move rfl (.tmp rfl)) rfl (lt_b rfl) ?_
        refine GoT.q rfl (QEx.cal0 (r := (iAV r5)) [(iAV (w64 (x3 * 65536))), (iAV x4)] rfl Tryz.call122 (.cons (.tmp rfl) (.cons (.tmp rfl) .nil)) (ref01_RoundDiv_ok hr5) rfl rfl) rfl (lt_b rfl) ?_
        refine GoT.q rfl (QEx.cal0 (r := (iAV r6)) [(iAV r5)] rfl Tryz.call121 (.cons (.tmp rfl) .nil) (ref01_Saturate_ok hr6) rfl rfl) rfl (lt_b rfl) ?_
        refine GoT.q rfl (QEx.assign rfl (.tmp rfl)) rfl (lt_b rfl) ?_
        refine GoT.nil ?_
        refine Wp.ret ?_
        cases h
        exact LeafQ.ret [] (by decide) (.cons (.tmp rfl) .nil) rfl
      · refine Wp.skip ?_
        refine bind_e h fun r7 hr7 h => ?_
        refine let_e h fun r8 hr8 h => ?_
        refine Wp.seq ?_
        refine Wp.region ?_
        refine GoT.q rfl (QEx.move rfl (.tmp rfl)) rfl (lt_b rfl) ?_
        refine GoT.q rfl (QEx.mulK rfl (.tmp rfl) .con) rfl (lt_b rfl) ?_
        refine GoT.q rfl (QEx.move rfl (.tmp rfl)) rfl (lt_b rfl) ?_
        refine GoT.q rfl (QEx.cal0 (r := (iAV r7)) [(iAV (w64 (r1 * 65536))), (iAV r2)] rfl Tryz.call122 (.cons (.tmp rfl) (.cons (.tmp rfl) .nil)) (ref01_RoundDiv_ok hr7) rfl rfl) rfl (lt_b rfl) ?_
        refine GoT.q rfl (QEx.cal0 (r := (iAV r8)) [(iAV r7)] rfl Tryz.call121 (.cons (.tmp rfl) .nil) (ref01_Saturate_ok hr8) rfl rfl) rfl (lt_b rfl) ?_
        refine GoT.q rfl (QEx.assign rfl (.tmp rfl)) rfl (lt_b rfl) ?_
        refine GoT.nil ?_
        refine Wp.ret ?_
        cases h
        exact LeafQ.ret [] (by decide) (.cons (.tmp rfl) .nil) rfl
theorem ref01_Mul_ok {a : Int} {b : Int} {r : Int} (h : ref01_Mul a b = some r) : FnR Tryz.prog 65 [(iAV a), (iAV b)] (iAV r) := by
  refine FnR.intro' (fn := Tryz.f65) (N := 12) Tryz.func65 rfl rfl (Nat.le_of_ble_eq_true rfl) [] ?_
  refine Wp.seq ?_
  refine Wp.region ?_
  refine GoT.q rfl (QEx.as (iAV 0) (QEx.assign rfl .con)) rfl (lt_b rfl) ?_
  refine GoT.nil ?_
  refine let_e h fun r1 hr1 h => ?_
  refine let_e h fun r2 hr2 h => ?_
  refine bind_e h fun r3 hr3 h => ?_
  refine let_e h fun r4 hr4 h => ?_
  refine Wp.seq ?_
  refine Wp.region ?_
  refine GoT.q rfl (QEx.move rfl (.tmp rfl)) rfl (lt_b rfl) ?_
  refine GoT.q rfl (QEx.cal0 (r := (iAV r1)) [(iAV a)] rfl Tryz.call121 (.cons (.tmp rfl) .nil) (ref01_Saturate_ok hr1) rfl rfl) rfl (lt_b rfl) ?_
  refine GoT.q rfl (QEx.move rfl (.tmp rfl)) rfl (lt_b rfl) ?_
  refine GoT.q rfl (QEx.cal0 (r := (iAV r2)) [(iAV b)] rfl Tryz.call121 (.cons (.tmp rfl) .nil) (ref01_Saturate_ok hr2) rfl rfl) rfl (lt_b rfl) ?_
  refine GoT.q rfl (QEx.mulK rfl (.tmp rfl) (.tmp rfl)) rfl (lt_b rfl) ?_
  refine GoT.q rfl (QEx.cal0 (r := (iAV r3)) [(iAV (w64 (r1 * r2))), (iAV 65536)] rfl Tryz.call122 (.cons (.tmp rfl) (.cons .con .nil)) (ref01_RoundDiv_ok hr3) rfl rfl) rfl (lt_b rfl) ?_
  refine GoT.q rfl (QEx.cal0 (r := (iAV r4)) [(iAV r3)] rfl Tryz.call121 (.cons (.tmp rfl) .nil) (ref01_Saturate_ok hr4) rfl rfl) rfl (lt_b rfl) ?_
  refine GoT.q rfl (QEx.assign rfl (.tmp rfl)) rfl (lt_b rfl) ?_
  refine GoT.nil ?_
  refine Wp.ret ?_
  cases h
  exact LeafQ.ret [] (by decide) (.cons (.tmp rfl) .nil) rfl
theorem ref02_firstQuadrant_ok {x_0 : Int} {r : Int} (h : ref02_firstQuadrant x_0 = some r) : FnR Tryz.prog 170 [(iAV x_0)] (iAV r) := by
  refine FnR.intro' (fn := Tryz.f170) (N := 18) Tryz.func170 rfl rfl (Nat.le_of_ble_eq_true rfl) [] ?_
  refine Wp.seq ?_
  refine Wp.region ?_
  refine GoT.q rfl (QEx.as (iAV 0) (QEx.assign rfl .con)) rfl (lt_b rfl) ?_
  refine GoT.nil ?_
  refine bind_e h fun r1 hr1 h => ?_
  refine Wp.seq ?_
  refine Wp.region ?_
  refine GoT.q rfl (QEx.move rfl (.tmp rfl)) rfl (lt_b rfl) ?_
  refine GoT.q rfl (QEx.cal0 (r := (iAV r1)) [(iAV x_0), (iAV 102944)] rfl Tryz.call110 (.cons (.tmp rfl) (.cons .con .nil)) (ref01_Div_ok hr1) rfl rfl) rfl (lt_b rfl) ?_
  refine GoT.q rfl (QEx.assign rfl (.tmp rfl)) rfl (lt_b rfl) ?_
  refine GoT.nil ?_
  refine bind_e h fun r2 hr2 h => ?_
  refine Wp.seq ?_
  refine Wp.region ?_
  refine GoT.q rfl (QEx.move rfl (.tmp rfl)) rfl (lt_b rfl) ?_
  refine GoT.q rfl (QEx.move rfl (.tmp rfl)) rfl (lt_b rfl) ?_
  refine GoT.q rfl (QEx.cal0 (r := (iAV r2)) [(iAV r1), (iAV r1)] rfl Tryz.call65 (.cons (.tmp rfl) (.cons (.tmp rfl) .nil)) (ref01_Mul_ok hr2) rfl rfl) rfl (lt_b rfl) ?_
  refine GoT.q rfl (QEx.assign rfl (.tmp rfl)) rfl (lt_b rfl) ?_
  refine GoT.nil ?_
  refine bind_e h fun r3 hr3 h => ?_
  refine let_e h fun r4 hr4 h => ?_
  refine bind_e h fun r5 hr5 h => ?_
  refine let_e h fun r6 hr6 h => ?_
  refine bind_e h fun r7 hr7 h => ?_
  refine Wp.seq ?_
  refine Wp.region ?_
  refine GoT.q rfl (QEx.move rfl (.tmp rfl)) rfl (lt_b rfl) ?_
  refine GoT.q rfl (QEx.move rfl (.tmp rfl)) rfl (lt_b rfl) ?_
  refine GoT.q rfl (QEx.move rfl (.tmp rfl)) rfl (lt_b rfl) ?_
  refine GoT.q rfl (QEx.cal0 (r := (iAV r3)) [(iAV r2), (iAV 4569)] rfl Tryz.call65 (.cons (.tmp rfl) (.cons .con .nil)) (ref01_Mul_ok hr3) rfl rfl) rfl (lt_b rfl) ?_
  refine GoT.q rfl (QEx.cal0 (r := (iAV r4)) [(iAV 41906), (iAV r3)] rfl Tryz.call98 (.cons .con (.cons (.tmp rfl) .nil)) (ref01_Sub_ok hr4) rfl rfl) rfl (lt_b rfl) ?_
  refine GoT.q rfl (QEx.cal0 (r := (iAV r5)) [(iAV r2), (iAV r4)] rfl Tryz.call65 (.cons (.tmp rfl) (.cons (.tmp rfl) .nil)) (ref01_Mul_ok hr5) rfl rfl) rfl (lt_b rfl) ?_
  refine GoT.q rfl (QEx.cal0 (r := (iAV r6)) [(iAV 102873), (iAV r5)] rfl Tryz.call98 (.cons .con (.cons (.tmp rfl) .nil)) (ref01_Sub_ok hr6) rfl rfl) rfl (lt_b rfl) ?_
  refine GoT.q rfl (QEx.cal0 (r := (iAV r7)) [(iAV r1), (iAV r6)] rfl Tryz.call65 (.cons (.tmp rfl) (.cons (.tmp rfl) .nil)) (ref01_Mul_ok hr7) rfl rfl) rfl (lt_b rfl) ?_
  refine GoT.q rfl (QEx.assign rfl (.tmp rfl)) rfl (lt_b rfl) ?_
  refine GoT.nil ?_
  refine Wp.ret ?_
  cases h
  exact LeafQ.ret [] (by decide) (.cons (.tmp rfl) .nil) rfl
end GoForm
