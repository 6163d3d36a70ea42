/- The program's functions compute their plain forms: printed by gen2.py. No conditions. -/
import Derived.Test.YtblkmlpjhpgkjaaGreatF23XW4
set_option linter.all false
set_option maxRecDepth 100000
open Go Go.Cx Go.Proofs Go.RowKit
namespace GoForm
theorem ref13_OfFixtures_ok {fixtures : List Fixture} {r : MassData} (h : ref13_OfFixtures fixtures = some r) : FnR Tryz.prog 46 [((slAV 10 Fixture.av) fixtures)] (MassData.av r) := by
  refine FnR.intro' (fn := Tryz.f46) (N := 37) Tryz.func46 rfl rfl (Nat.le_of_ble_eq_true rfl) [2, 3, 5, 10, 15, 21, 22, 27, 33, 34, 35] ?_
  refine Wp.seq ?_
  refine Wp.region ?_
  refine GoT.a rfl (AEx.alZ rfl zt49 rfl rfl) rfl (lt_b rfl) ?_
  refine GoT.nil ?_
  refine Wp.seq ?_
  refine Wp.seq ?_
  refine Wp.region ?_
  refine GoT.q rfl (QEx.move rfl (.tmp rfl)) rfl (lt_b rfl) ?_
  refine GoT.q rfl (QEx.lenL rfl ⟨_, uT27⟩ (.tmp rfl)) rfl (lt_b rfl) ?_
  refine GoT.q rfl (QEx.gtrK rfl (.tmp rfl) .con) rfl (lt_b rfl) ?_
  refine GoT.nil ?_
  refine Wp.condS h rfl (fun h => ?_) (fun h => ?_)
  · refine let_e h fun x1 hx1 h => ?_
    refine Wp.seq ?_
    refine Wp.region ?_
    refine GoT.q rfl (QEx.as (MassData.av (⟨0, Vec.zero, 0⟩ : MassData)) (QEx.buildZ rfl uT49 zt49 (by kernel_rfl) .nil)) rfl (lt_b rfl) ?_
    refine GoT.s rfl (AEx.sto (Z := (MassData.cells x1)) rfl rfl ts49 (.tmp rfl) rfl (.tmp rfl) rfl rfl (le_b rfl) (congrArg (fun (x : MassData) => (MassData.cells x)) hx1)) rfl ?_
    refine GoT.nil ?_
    refine Wp.ret ?_
    cases h
    exact LeafQ.ret [] (by decide) (.cons (.agg rfl rfl ag49 ts49) .nil) rfl
  · refine Wp.skip ?_
    refine Wp.seq ?_
    refine Wp.region ?_
    refine GoT.q rfl (QEx.as (slT 3 0 4 MassData.av ([] : List MassData)) (QEx.assign rfl (.nil))) rfl (lt_b rfl) ?_
    refine GoT.nil ?_
    refine Wp.join1 (fun v2 => ⟨[(2, (.ptr 2 0)), (3, (slT 3 0 4 MassData.av v2))], [(2, .cells (MassData.cells MassData.zero))], [5, 10, 15, 21, 22, 27, 33, 34, 35]⟩) (fun v2 => ref13_OfFixtures_j3 v2 = some r) ?_ ?_
    · intro v2 h
      refine bind_e h fun r13 hr13 h => ?_
      refine let_e h fun x14 hx14 h => ?_
      refine Wp.seq ?_
      refine Wp.region ?_
      refine GoT.q rfl (QEx.move rfl (.tmp rfl)) rfl (lt_b rfl) ?_
      refine GoT.q rfl (QEx.cal0 (r := (MassData.av r13)) [((slAV 4 MassData.av) v2)] rfl Tryz.call104 (.cons (.tmp rfl) .nil) (ref13_Combine_ok hr13) rfl rfl) rfl (lt_b rfl) ?_
      refine GoT.s rfl (AEx.sto (Z := (MassData.cells x14)) rfl rfl ts49 (.tmp rfl) rfl (.tmp rfl) rfl rfl (le_b rfl) (congrArg (fun (x : MassData) => (MassData.cells x)) hx14)) rfl ?_
      refine GoT.nil ?_
      refine Wp.ret ?_
      cases h
      exact LeafQ.ret [] (by decide) (.cons (.agg rfl rfl ag49 ts49) .nil) rfl
    · refine Wp.seq ?_
      refine Wp.region ?_
      refine GoT.q rfl (QEx.as (iAV 0) (QEx.assign rfl .con)) rfl (lt_b rfl) ?_
      refine GoT.nil ?_
      refine Wp.block ?_
      refine Wp.loop2 (fun v3 v4 => ⟨[(0, ((slAV 10 Fixture.av) fixtures)), (2, (.ptr 2 0)), (3, (slT 3 0 4 MassData.av v3)), (4, (iAV v4))], [(2, .cells (MassData.cells MassData.zero))], [5, 10, 15, 21, 22, 27, 33, 34, 35]⟩) (fun n v3 v4 => ref13_OfFixtures_l2 fixtures ref13_OfFixtures_j3 n v3 v4 = some r) fuel ([] : List MassData) 0 [] [] h (LS.to.mk (.b rfl rfl (.r rfl rfl (.r rfl rfl (.b rfl rfl .n)))) (.b rfl rfl rfl .n) rfl) ?_
      rintro (_ | n2) v3 v4 h
      · exact none_e h
      rw [ref13_OfFixtures_l2] at h
      refine Wp.seq ?_
      refine Wp.seq ?_
      refine Wp.region ?_
      refine GoT.q rfl (QEx.move rfl (.tmp rfl)) rfl (lt_b rfl) ?_
      refine GoT.q rfl (QEx.move rfl (.tmp rfl)) rfl (lt_b rfl) ?_
      refine GoT.q rfl (QEx.lenL rfl ⟨_, uT27⟩ (.tmp rfl)) rfl (lt_b rfl) ?_
      refine GoT.q rfl (QEx.lssK rfl (.tmp rfl) (.tmp rfl)) rfl (lt_b rfl) ?_
      refine GoT.nil ?_
      refine Wp.condS h rfl (fun h => ?_) (fun h => ?_)
      · refine Wp.skip ?_
        refine Wp.join1 (fun v5 => ⟨[(0, ((slAV 10 Fixture.av) fixtures)), (2, (.ptr 2 0)), (3, (slT 3 0 4 MassData.av v5)), (4, (iAV v4))], [(2, .cells (MassData.cells MassData.zero))], [5, 10, 15, 21, 22, 27, 33, 34, 35]⟩) (fun v5 => (ref13_OfFixtures_j1 v4 (ref13_OfFixtures_l2 fixtures ref13_OfFixtures_j3 n2)) v5 = some r) ?_ ?_
        · intro v5 h
          refine let_e h fun x12 hx12 h => ?_
          refine Wp.region ?_
          refine GoT.q rfl (QEx.move rfl (.tmp rfl)) rfl (lt_b rfl) ?_
          refine GoT.q rfl (QEx.addK rfl (.tmp rfl) .con) rfl (lt_b rfl) ?_
          refine GoT.q rfl (QEx.eq (QEx.assign rfl (.tmp rfl)) (congrArg iAV hx12)) rfl (lt_b rfl) ?_
          refine GoT.nil ?_
          exact Round2.mk v5 x12 [] [] h (LS.to.mk (.b rfl rfl (.r rfl rfl (.r rfl rfl (.b rfl rfl .n)))) (.b rfl rfl rfl .n) rfl)
        · refine Wp.block ?_
          refine chk_e h fun c6 h => ?_
          refine Wp.seq ?_
          refine Wp.region ?_
          refine GoT.q rfl (QEx.move rfl (.tmp rfl)) rfl (lt_b rfl) ?_
          refine GoT.q rfl (QEx.move rfl (.tmp rfl)) rfl (lt_b rfl) ?_
          refine GoT.q rfl (QEx.as (.cptr (Fixture.cells (ix fixtures v4))) (QEx.idxL (E := Fixture.av) rfl et27 (.tmp rfl) (.tmp rfl) c6)) rfl (lt_b rfl) ?_
          refine GoT.q rfl (QEx.fldC [(boolAV ((ix fixtures v4).Sensor))] rfl uT35 rfl ts4 rfl (.tmp rfl) rfl) rfl (lt_b rfl) ?_
          refine GoT.q rfl (QEx.ldC (x := (boolAV ((ix fixtures v4).Sensor))) rfl ag4 ts4 (.tmp rfl) (.inr ⟨rfl, rfl⟩)) rfl (lt_b rfl) ?_
          refine GoT.q rfl (QEx.notK rfl (.tmp rfl)) rfl (lt_b rfl) ?_
          refine GoT.nil ?_
          refine Wp.condS h rfl (fun h => ?_) (fun h => ?_)
          · refine chk_e h fun c7 h => ?_
            refine chk_e h fun c8 h => ?_
            refine bind_e h fun r9 hr9 h => ?_
            refine chk_e h fun c10 h => ?_
            refine let_e h fun x11 hx11 h => ?_
            refine Wp.drawn2 (n0 := 13) [5, 10, 15, 21, 22, 27, 33, 34, 35] mixed ?_
            refine GoD.q rfl (QEx.move rfl (.tmp rfl)) rfl (lt_b rfl) ?_
            refine GoD.q rfl (QEx.move rfl (.tmp rfl)) rfl (lt_b rfl) ?_
            refine GoD.q rfl (QEx.move rfl (.tmp rfl)) rfl (lt_b rfl) ?_
            refine GoD.q rfl (QEx.as (.cptr (Fixture.cells (ix fixtures v4))) (QEx.idxL (E := Fixture.av) rfl et27 (.tmp rfl) (.tmp rfl) c7)) rfl (lt_b rfl) ?_
            refine GoD.q rfl (QEx.fldC (Shape.cells ((ix fixtures v4).Shape)) rfl uT35 rfl ts33 rfl (.tmp rfl) rfl) rfl (lt_b rfl) ?_
            refine GoD.q rfl (QEx.ldC (x := (Shape.av ((ix fixtures v4).Shape))) rfl ag33 ts33 (.tmp rfl) (.inl ⟨rfl, rfl, rfl⟩)) rfl (lt_b rfl) ?_
            refine GoD.q rfl (QEx.move rfl (.tmp rfl)) rfl (lt_b rfl) ?_
            refine GoD.q rfl (QEx.move rfl (.tmp rfl)) rfl (lt_b rfl) ?_
            refine GoD.q rfl (QEx.as (.cptr (Fixture.cells (ix fixtures v4))) (QEx.idxL (E := Fixture.av) rfl et27 (.tmp rfl) (.tmp rfl) c8)) rfl (lt_b rfl) ?_
            refine GoD.q rfl (QEx.fldC [(iAV ((ix fixtures v4).Density))] rfl uT35 rfl ts3 rfl (.tmp rfl) rfl) rfl (lt_b rfl) ?_
            refine GoD.q rfl (QEx.ldC (x := (iAV ((ix fixtures v4).Density))) rfl ag3 ts3 (.tmp rfl) (.inr ⟨rfl, rfl⟩)) rfl (lt_b rfl) ?_
            refine GoD.q rfl (QEx.cal0 (r := (MassData.av r9)) [(Shape.av ((ix fixtures v4).Shape)), (iAV ((ix fixtures v4).Density))] rfl Tryz.call103 (.cons (.tmp rfl) (.cons (.tmp rfl) .nil)) (ref13_OfShape_ok hr9) rfl rfl) rfl (lt_b rfl) ?_
            refine GoD.q rfl (QEx.as (slT 33 0 4 MassData.av ([r9] : List MassData)) (QEx.buildSlice rfl et95 (.cons (.tmp rfl) rfl rfl rfl .nil) rfl (by decide))) rfl (lt_b rfl) ?_
            refine GoD.nil ⟨by kernel_rfl, by kernel_rfl, by kernel_rfl, by kernel_rfl, by kernel_rfl, ?_⟩
            refine GoT.a rfl (AEx.appL (E := MassData.av) rfl et95 (.tmp rfl) (.tmp rfl) rfl c10 rfl rfl hx11 (by decide)) rfl (lt_b rfl) ?_
            refine GoT.q rfl (QEx.assign rfl (.tmp rfl)) rfl (lt_b rfl) ?_
            refine GoT.nil ?_
            exact Joined1.mk x11 [] [(34, 3)] h (LS.to.mk (.b rfl rfl (.r rfl rfl (.r rfl rfl (.b rfl rfl .n)))) (.b rfl rfl rfl .n) rfl)
          · refine Wp.skip ?_
            exact Joined1.mk v3 [] [] h (LS.to.mk (.b rfl rfl (.r rfl rfl (.r rfl rfl (.b rfl rfl .n)))) (.b rfl rfl rfl .n) rfl)
      · refine Wp.exit ?_
        exact Joined1.mk v3 [] [] h (LS.to.mk (.r rfl rfl (.r rfl rfl .n)) (.b rfl rfl rfl .n) rfl)
theorem ref23_MassData_ok {b : Body} {r : MassData} (h : ref23_MassData b = some r) : FnR Tryz.prog 15 [(Body.av b)] (MassData.av r) := by
  refine FnR.intro' (fn := Tryz.f15) (N := 6) Tryz.func15 rfl rfl (Nat.le_of_ble_eq_true rfl) [1, 2] ?_
  refine Wp.seq ?_
  refine Wp.region ?_
  refine GoT.a rfl (AEx.bx (Z := (Body.cells b)) rfl (.tmp rfl) rfl rfl rfl rfl) rfl (lt_b rfl) ?_
  refine GoT.a rfl (AEx.alZ rfl zt49 rfl rfl) rfl (lt_b rfl) ?_
  refine GoT.nil ?_
  refine bind_e h fun r1 hr1 h => ?_
  refine let_e h fun x2 hx2 h => ?_
  refine Wp.seq ?_
  refine Wp.region ?_
  refine GoT.q rfl (QEx.fldP 19 rfl uT29 rfl ts27 rfl (.tmp rfl) rfl) rfl (lt_b rfl) ?_
  refine GoT.qr rfl rfl (QEx.ldP1 (Body.cells b) ((slAV 10 Fixture.av) b.Fixtures) rfl ag27 (.tmp rfl) rfl) rfl (lt_b rfl) ?_
  refine GoT.q rfl (QEx.cal0 (r := (MassData.av r1)) [((slAV 10 Fixture.av) b.Fixtures)] rfl Tryz.call46 (.cons (.tmp rfl) .nil) (ref13_OfFixtures_ok hr1) rfl rfl) rfl (lt_b rfl) ?_
  refine GoT.s rfl (AEx.sto (Z := (MassData.cells x2)) rfl rfl ts49 (.tmp rfl) rfl (.tmp rfl) rfl rfl (le_b rfl) (congrArg (fun (x : MassData) => (MassData.cells x)) hx2)) rfl ?_
  refine GoT.nil ?_
  refine Wp.ret ?_
  cases h
  exact LeafQ.ret [] (by decide) (.cons (.agg rfl rfl ag49 ts49) .nil) rfl
theorem ref23_WorldCenter_ok {b : Body} {r : Vec} (h : ref23_WorldCenter b = some r) : FnR Tryz.prog 17 [(Body.av b)] (Vec.av r) := by
  refine FnR.intro' (fn := Tryz.f17) (N := 9) Tryz.func17 rfl rfl (Nat.le_of_ble_eq_true rfl) [1, 2] ?_
  refine Wp.seq ?_
  refine Wp.region ?_
  refine GoT.a rfl (AEx.bx (Z := (Body.cells b)) rfl (.tmp rfl) rfl rfl rfl rfl) rfl (lt_b rfl) ?_
  refine GoT.a rfl (AEx.alZ rfl zt24 rfl rfl) rfl (lt_b rfl) ?_
  refine GoT.nil ?_
  refine bind_e h fun r1 hr1 h => ?_
  refine bind_e h fun r2 hr2 h => ?_
  refine let_e h fun x3 hx3 h => ?_
  refine Wp.seq ?_
  refine Wp.drawn2 (n0 := 7) [] mixed ?_
  refine GoD.q rfl (QEx.fldP 2 rfl uT29 rfl ts26 rfl (.tmp rfl) rfl) rfl (lt_b rfl) ?_
  refine GoD.qr rfl rfl (QEx.ldP (Body.cells b) (Transform.av b.Transform) rfl ag26 ts26 (.tmp rfl) (le_b rfl) rfl) rfl (lt_b rfl) ?_
  refine GoD.qr rfl rfl (QEx.ldP (Body.cells b) (Body.av b) rfl ag29 ts29 (.tmp rfl) (le_b rfl) rfl) rfl (lt_b rfl) ?_
  refine GoD.q rfl (QEx.cal0 (r := (MassData.av r1)) [(Body.av b)] rfl Tryz.call15 (.cons (.tmp rfl) .nil) (ref23_MassData_ok hr1) rfl rfl) rfl (lt_b rfl) ?_
  refine GoD.q rfl (QEx.as (Vec.av r1.Center) (QEx.field rfl uT49 rfl ts24 ag24 (.tmp rfl) (.inl ⟨rfl, rfl⟩))) rfl (lt_b rfl) ?_
  refine GoD.q rfl (QEx.cal0 (r := (Vec.av r2)) [(Transform.av b.Transform), (Vec.av r1.Center)] rfl Tryz.call48 (.cons (.tmp rfl) (.cons (.tmp rfl) .nil)) (ref04_Apply_ok hr2) rfl rfl) rfl (lt_b rfl) ?_
  refine GoD.s rfl (Z := (Vec.cells x3)) rfl rfl ts24 (.tmp rfl) rfl (.tmp rfl) rfl rfl (le_b rfl) (congrArg (fun (x : Vec) => (Vec.cells x)) hx3) ?_
  refine GoD.nil ⟨by kernel_rfl, by kernel_rfl, by kernel_rfl, by kernel_rfl, by kernel_rfl, ?_⟩
  refine GoT.nil ?_
  refine Wp.ret ?_
  cases h
  exact LeafQ.ret [] (by decide) (.cons (.agg rfl rfl ag24 ts24) .nil) rfl
theorem ref13_Inverse_ok {h_0 : MassData} {kind : Int} {fixedRotation : Bool} {r : Int × Int} (h : ref13_Inverse h_0 kind fixedRotation = some r) : FnR Tryz.prog 50 [(MassData.av h_0), (iAV kind), (boolAV fixedRotation)] (.tup [(iAV r.1), (iAV r.2)]) := by
  refine FnR.intro' (fn := Tryz.f50) (N := 30) Tryz.func50 rfl rfl (Nat.le_of_ble_eq_true rfl) [3] ?_
  refine Wp.seq ?_
  refine Wp.region ?_
  refine GoT.a rfl (AEx.bx (Z := (MassData.cells h_0)) rfl (.tmp rfl) rfl rfl rfl rfl) rfl (lt_b rfl) ?_
  refine GoT.q rfl (QEx.as (iAV 0) (QEx.assign rfl .con)) rfl (lt_b rfl) ?_
  refine GoT.q rfl (QEx.as (iAV 0) (QEx.assign rfl .con)) rfl (lt_b rfl) ?_
  refine GoT.nil ?_
  refine Wp.seq ?_
  refine Wp.seq ?_
  refine Wp.region ?_
  refine GoT.q rfl (QEx.move rfl (.tmp rfl)) rfl (lt_b rfl) ?_
  refine GoT.q rfl (QEx.neqK rfl (.tmp rfl) .con) rfl (lt_b rfl) ?_
  refine GoT.nil ?_
  refine Wp.condS h rfl (fun h => ?_) (fun h => ?_)
  · refine Wp.seq ?_
    refine Wp.region ?_
    refine GoT.q rfl (QEx.as (iAV 0) (QEx.assign rfl .con)) rfl (lt_b rfl) ?_
    refine GoT.q rfl (QEx.as (iAV 0) (QEx.assign rfl .con)) rfl (lt_b rfl) ?_
    refine GoT.nil ?_
    refine Wp.ret ?_
    cases h
    exact LeafQ.ret [] (by decide) (.cons (.tmp rfl) (.cons (.tmp rfl) .nil)) rfl
  · refine Wp.skip ?_
    refine Wp.seq ?_
    refine Wp.region ?_
    refine GoT.q rfl (QEx.as (iAV 65536) (QEx.assign rfl .con)) rfl (lt_b rfl) ?_
    refine GoT.q rfl (QEx.as (iAV 0) (QEx.assign rfl .con)) rfl (lt_b rfl) ?_
    refine GoT.nil ?_
    refine Wp.join1 (fun v1 => ⟨[(2, (boolAV fixedRotation)), (3, (.ptr 3 0)), (8, (iAV v1)), (9, (iAV 0))], [(3, .cells (MassData.cells h_0))], []⟩) (fun v1 => (ref13_Inverse_j1 h_0 fixedRotation) v1 = some r) ?_ ?_
    · intro v1 h
      refine Wp.seq ?_
      refine Wp.seq ?_
      refine Wp.region ?_
      refine GoT.q rfl (QEx.move rfl (.tmp rfl)) rfl (lt_b rfl) ?_
      refine GoT.q rfl (QEx.notK rfl (.tmp rfl)) rfl (lt_b rfl) ?_
      refine GoT.q rfl (QEx.move rfl (.tmp rfl)) rfl (lt_b rfl) ?_
      refine GoT.g rfl rfl rfl (fun hg => QEx.fldP 3 rfl uT49 rfl ts3 rfl (.tmp rfl) rfl) rfl (lt_b rfl) ?_
      refine GoT.gr rfl rfl rfl rfl (fun hg => QEx.ldP1 (MassData.cells h_0) (iAV h_0.Inertia) rfl ag3 (.opt (.tmp rfl) hg) rfl) rfl (lt_b rfl) ?_
      refine GoT.g rfl rfl rfl (fun hg => QEx.geqK rfl (.opt (.tmp rfl) hg) .con) rfl (lt_b rfl) ?_
      refine GoT.q rfl (QEx.pickK rfl (.tmp rfl) (fun hp => (.opt (.tmp rfl) (beq_t hp))) (fun hp => .con)) rfl (lt_b rfl) ?_
      refine GoT.nil ?_
      refine Wp.condS h rfl (fun h => ?_) (fun h => ?_)
      · refine bind_e h fun r3 hr3 h => ?_
        refine Wp.region ?_
        refine GoT.q rfl (QEx.fldP 3 rfl uT49 rfl ts3 rfl (.tmp rfl) rfl) rfl (lt_b rfl) ?_
        refine GoT.qr rfl rfl (QEx.ldP1 (MassData.cells h_0) (iAV h_0.Inertia) rfl ag3 (.tmp rfl) rfl) rfl (lt_b rfl) ?_
        refine GoT.q rfl (QEx.cal0 (r := (iAV r3)) [(iAV 65536), (iAV h_0.Inertia)] rfl Tryz.call110 (.cons .con (.cons (.tmp rfl) .nil)) (ref01_Div_ok hr3) rfl rfl) rfl (lt_b rfl) ?_
        refine GoT.q rfl (QEx.assign rfl (.tmp rfl)) rfl (lt_b rfl) ?_
        refine GoT.nil ?_
        refine Wp.seq ?_
        refine Wp.region ?_
        refine GoT.q rfl (QEx.move rfl (.tmp rfl)) rfl (lt_b rfl) ?_
        refine GoT.q rfl (QEx.move rfl (.tmp rfl)) rfl (lt_b rfl) ?_
        refine GoT.q rfl (QEx.assign rfl (.tmp rfl)) rfl (lt_b rfl) ?_
        refine GoT.q rfl (QEx.assign rfl (.tmp rfl)) rfl (lt_b rfl) ?_
        refine GoT.nil ?_
        refine Wp.ret ?_
        cases h
        exact LeafQ.ret [] (by decide) (.cons (.tmp rfl) (.cons (.tmp rfl) .nil)) rfl
      · refine Wp.skip ?_
        refine Wp.seq ?_
        refine Wp.region ?_
        refine GoT.q rfl (QEx.move rfl (.tmp rfl)) rfl (lt_b rfl) ?_
        refine GoT.q rfl (QEx.move rfl (.tmp rfl)) rfl (lt_b rfl) ?_
        refine GoT.q rfl (QEx.assign rfl (.tmp rfl)) rfl (lt_b rfl) ?_
        refine GoT.q rfl (QEx.assign rfl (.tmp rfl)) rfl (lt_b rfl) ?_
        refine GoT.nil ?_
        refine Wp.ret ?_
        cases h
        exact LeafQ.ret [] (by decide) (.cons (.tmp rfl) (.cons (.tmp rfl) .nil)) rfl
    · refine Wp.seq ?_
      refine Wp.region ?_
      refine GoT.q rfl (QEx.fldP 0 rfl uT49 rfl ts3 rfl (.tmp rfl) rfl) rfl (lt_b rfl) ?_
      refine GoT.qr rfl rfl (QEx.ldP1 (MassData.cells h_0) (iAV h_0.Mass) rfl ag3 (.tmp rfl) rfl) rfl (lt_b rfl) ?_
      refine GoT.q rfl (QEx.geqK rfl (.tmp rfl) .con) rfl (lt_b rfl) ?_
      refine GoT.nil ?_
      refine Wp.condS h rfl (fun h => ?_) (fun h => ?_)
      · refine bind_e h fun r2 hr2 h => ?_
        refine Wp.region ?_
        refine GoT.q rfl (QEx.fldP 0 rfl uT49 rfl ts3 rfl (.tmp rfl) rfl) rfl (lt_b rfl) ?_
        refine GoT.qr rfl rfl (QEx.ldP1 (MassData.cells h_0) (iAV h_0.Mass) rfl ag3 (.tmp rfl) rfl) rfl (lt_b rfl) ?_
        refine GoT.q rfl (QEx.cal0 (r := (iAV r2)) [(iAV 65536), (iAV h_0.Mass)] rfl Tryz.call110 (.cons .con (.cons (.tmp rfl) .nil)) (ref01_Div_ok hr2) rfl rfl) rfl (lt_b rfl) ?_
        refine GoT.q rfl (QEx.assign rfl (.tmp rfl)) rfl (lt_b rfl) ?_
        refine GoT.nil ?_
        exact Joined1.mk r2 [] [] h (LS.to.mk (.b rfl rfl (.r rfl rfl (.b rfl rfl (.b rfl rfl .n)))) (.b rfl rfl rfl .n) rfl)
      · refine Wp.skip ?_
        exact Joined1.mk 65536 [] [] h (LS.to.mk (.b rfl rfl (.r rfl rfl (.b rfl rfl (.b rfl rfl .n)))) (.b rfl rfl rfl .n) rfl)
theorem ref23_SolverBody_ok {b : Body} {r : SolverBody} (h : ref23_SolverBody b = some r) : FnR Tryz.prog 19 [(Body.av b)] (SolverBody.av r) := by
  refine FnR.intro' (fn := Tryz.f19) (N := 22) Tryz.func19 rfl rfl (Nat.le_of_ble_eq_true rfl) [1, 2] ?_
  refine Wp.seq ?_
  refine Wp.region ?_
  refine GoT.a rfl (AEx.bx (Z := (Body.cells b)) rfl (.tmp rfl) rfl rfl rfl rfl) rfl (lt_b rfl) ?_
  refine GoT.a rfl (AEx.alZ rfl zt53 rfl rfl) rfl (lt_b rfl) ?_
  refine GoT.nil ?_
  refine bind_e h fun r1 hr1 h => ?_
  refine bind_e h fun r2 hr2 h => ?_
  refine Wp.seq ?_
  refine Wp.drawn2 (n0 := 12) [] mixed ?_
  refine GoD.qr rfl rfl (QEx.ldP (Body.cells b) (Body.av b) rfl ag29 ts29 (.tmp rfl) (le_b rfl) rfl) rfl (lt_b rfl) ?_
  refine GoD.q rfl (QEx.cal0 (r := (MassData.av r1)) [(Body.av b)] rfl Tryz.call15 (.cons (.tmp rfl) .nil) (ref23_MassData_ok hr1) rfl rfl) rfl (lt_b rfl) ?_
  refine GoD.q rfl (QEx.fldP 1 rfl uT29 rfl ts22 rfl (.tmp rfl) rfl) rfl (lt_b rfl) ?_
  refine GoD.qr rfl rfl (QEx.ldP1 (Body.cells b) (iAV b.Kind) rfl ag22 (.tmp rfl) rfl) rfl (lt_b rfl) ?_
  refine GoD.q rfl (QEx.fldP 15 rfl uT29 rfl ts4 rfl (.tmp rfl) rfl) rfl (lt_b rfl) ?_
  refine GoD.qr rfl rfl (QEx.ldP1 (Body.cells b) (boolAV b.FixedRotation) rfl ag4 (.tmp rfl) rfl) rfl (lt_b rfl) ?_
  refine GoD.q rfl (QEx.cal0 (r := (.tup [(iAV r2.1), (iAV r2.2)])) [(MassData.av r1), (iAV b.Kind), (boolAV b.FixedRotation)] rfl Tryz.call50 (.cons (.tmp rfl) (.cons (.tmp rfl) (.cons (.tmp rfl) .nil))) (ref13_Inverse_ok hr2) rfl rfl) rfl (lt_b rfl) ?_
  refine GoD.q rfl (QEx.move rfl (.tmp rfl)) rfl (lt_b rfl) ?_
  refine GoD.q rfl (QEx.extract rfl (.tmp rfl) rfl) rfl (lt_b rfl) ?_
  refine GoD.q rfl (QEx.extract rfl (.tmp rfl) rfl) rfl (lt_b rfl) ?_
  refine GoD.q rfl (QEx.assign rfl (.tmp rfl)) rfl (lt_b rfl) ?_
  refine GoD.q rfl (QEx.assign rfl (.tmp rfl)) rfl (lt_b rfl) ?_
  refine GoD.nil ⟨by kernel_rfl, by kernel_rfl, by kernel_rfl, by kernel_rfl, by kernel_rfl, ?_⟩
  refine GoT.nil ?_
  refine let_e h fun x3 hx3 h => ?_
  refine Wp.seq ?_
  refine Wp.region ?_
  refine GoT.q rfl (QEx.fldP 5 rfl uT29 rfl ts24 rfl (.tmp rfl) rfl) rfl (lt_b rfl) ?_
  refine GoT.qr rfl rfl (QEx.ldP (Body.cells b) (Vec.av b.Velocity) rfl ag24 ts24 (.tmp rfl) (le_b rfl) rfl) rfl (lt_b rfl) ?_
  refine GoT.q rfl (QEx.fldP 7 rfl uT29 rfl ts3 rfl (.tmp rfl) rfl) rfl (lt_b rfl) ?_
  refine GoT.qr rfl rfl (QEx.ldP1 (Body.cells b) (iAV b.AngularVelocity) rfl ag3 (.tmp rfl) rfl) rfl (lt_b rfl) ?_
  refine GoT.q rfl (QEx.move rfl (.tmp rfl)) rfl (lt_b rfl) ?_
  refine GoT.q rfl (QEx.move rfl (.tmp rfl)) rfl (lt_b rfl) ?_
  refine GoT.q rfl (QEx.as (SolverBody.av (⟨b.Velocity, b.AngularVelocity, r2.1, r2.2⟩ : SolverBody)) (QEx.buildZ rfl uT53 zt53 (by kernel_rfl) (.cons rfl (.tmp rfl) rfl rfl (le_b rfl) (.cons rfl (.tmp rfl) rfl rfl (le_b rfl) (.cons rfl (.tmp rfl) rfl rfl (le_b rfl) (.cons rfl (.tmp rfl) rfl rfl (le_b rfl) .nil)))))) rfl (lt_b rfl) ?_
  refine GoT.s rfl (AEx.sto (Z := (SolverBody.cells x3)) rfl rfl ts53 (.tmp rfl) rfl (.tmp rfl) rfl rfl (le_b rfl) (congrArg (fun (x : SolverBody) => (SolverBody.cells x)) hx3)) rfl ?_
  refine GoT.nil ?_
  refine Wp.ret ?_
  cases h
  exact LeafQ.ret [] (by decide) (.cons (.agg rfl rfl ag53 ts53) .nil) rfl
theorem vec2_CrossScalar_ok {w : Int} {v_1 : Vec} {r : Vec} (h : vec2_CrossScalar w v_1 = some r) : FnR Tryz.prog 53 [(iAV w), (Vec.av v_1)] (Vec.av r) := by
  refine FnR.intro' (fn := Tryz.f53) (N := 15) Tryz.func53 rfl rfl (Nat.le_of_ble_eq_true rfl) [3, 4] ?_
  refine Wp.seq ?_
  refine Wp.region ?_
  refine GoT.a rfl (AEx.bx (Z := (Vec.cells v_1)) rfl (.tmp rfl) rfl rfl rfl rfl) rfl (lt_b rfl) ?_
  refine GoT.a rfl (AEx.alZ rfl zt24 rfl rfl) rfl (lt_b rfl) ?_
  refine GoT.nil ?_
  refine bind_e h fun r1 hr1 h => ?_
  refine bind_e h fun r2 hr2 h => ?_
  refine let_e h fun x3 hx3 h => ?_
  refine Wp.seq ?_
  refine Wp.drawn2 (n0 := 11) [] mixed ?_
  refine GoD.q rfl (QEx.move rfl (.tmp rfl)) rfl (lt_b rfl) ?_
  refine GoD.q rfl (QEx.fldP 1 rfl uT24 rfl ts3 rfl (.tmp rfl) rfl) rfl (lt_b rfl) ?_
  refine GoD.qr rfl rfl (QEx.ldP1 (Vec.cells v_1) (iAV v_1.Y) rfl ag3 (.tmp rfl) rfl) rfl (lt_b rfl) ?_
  refine GoD.q rfl (QEx.cal0 (r := (iAV r1)) [(iAV w), (iAV v_1.Y)] rfl Tryz.call62 (.cons (.tmp rfl) (.cons (.tmp rfl) .nil)) (fixed_Mul_ok hr1) rfl rfl) rfl (lt_b rfl) ?_
  refine GoD.q rfl (QEx.negK rfl (.tmp rfl)) rfl (lt_b rfl) ?_
  refine GoD.q rfl (QEx.move rfl (.tmp rfl)) rfl (lt_b rfl) ?_
  refine GoD.q rfl (QEx.fldP 0 rfl uT24 rfl ts3 rfl (.tmp rfl) rfl) rfl (lt_b rfl) ?_
  refine GoD.qr rfl rfl (QEx.ldP1 (Vec.cells v_1) (iAV v_1.X) rfl ag3 (.tmp rfl) rfl) rfl (lt_b rfl) ?_
  refine GoD.q rfl (QEx.cal0 (r := (iAV r2)) [(iAV w), (iAV v_1.X)] rfl Tryz.call62 (.cons (.tmp rfl) (.cons (.tmp rfl) .nil)) (fixed_Mul_ok hr2) rfl rfl) rfl (lt_b rfl) ?_
  refine GoD.q rfl (QEx.as (Vec.av (⟨(w64 (0 - r1)), r2⟩ : Vec)) (QEx.buildZ rfl uT24 zt24 (by kernel_rfl) (.cons rfl (.tmp rfl) rfl rfl (le_b rfl) (.cons rfl (.tmp rfl) rfl rfl (le_b rfl) .nil)))) rfl (lt_b rfl) ?_
  refine GoD.s rfl (Z := (Vec.cells x3)) rfl rfl ts24 (.tmp rfl) rfl (.tmp rfl) rfl rfl (le_b rfl) (congrArg (fun (x : Vec) => (Vec.cells x)) hx3) ?_
  refine GoD.nil ⟨by kernel_rfl, by kernel_rfl, by kernel_rfl, by kernel_rfl, by kernel_rfl, ?_⟩
  refine GoT.nil ?_
  refine Wp.ret ?_
  cases h
  exact LeafQ.ret [] (by decide) (.cons (.agg rfl rfl ag24 ts24) .nil) rfl
theorem body_VelocityAt_ok {b : Body} {point : Vec} {r : Vec} (h : body_VelocityAt b point = some r) : FnR Tryz.prog 20 [(Body.av b), (Vec.av point)] (Vec.av r) := by
  refine FnR.intro' (fn := Tryz.f20) (N := 17) Tryz.func20 rfl rfl (Nat.le_of_ble_eq_true rfl) [2, 3, 4, 5] ?_
  refine Wp.seq ?_
  refine Wp.region ?_
  refine GoT.a rfl (AEx.bx (Z := (Body.cells b)) rfl (.tmp rfl) rfl rfl rfl rfl) rfl (lt_b rfl) ?_
  refine GoT.a rfl (AEx.bx (Z := (Vec.cells point)) rfl (.tmp rfl) rfl rfl rfl rfl) rfl (lt_b rfl) ?_
  refine GoT.a rfl (AEx.alZ rfl zt24 rfl rfl) rfl (lt_b rfl) ?_
  refine GoT.nil ?_
  refine bind_e h fun r1 hr1 h => ?_
  refine let_e h fun r2 hr2 h => ?_
  refine let_e h fun x3 hx3 h => ?_
  refine Wp.seq ?_
  refine Wp.drawn2 (n0 := 6) [] mixed ?_
  refine GoD.qr rfl rfl (QEx.ldP (Vec.cells point) (Vec.av point) rfl ag24 ts24 (.tmp rfl) (le_b rfl) rfl) rfl (lt_b rfl) ?_
  refine GoD.qr rfl rfl (QEx.ldP (Body.cells b) (Body.av b) rfl ag29 ts29 (.tmp rfl) (le_b rfl) rfl) rfl (lt_b rfl) ?_
  refine GoD.q rfl (QEx.cal0 (r := (Vec.av r1)) [(Body.av b)] rfl Tryz.call16 (.cons (.tmp rfl) .nil) (body_WorldCenter_ok hr1) rfl rfl) rfl (lt_b rfl) ?_
  refine GoD.q rfl (QEx.cal0 (r := (Vec.av r2)) [(Vec.av point), (Vec.av r1)] rfl Tryz.call51 (.cons (.tmp rfl) (.cons (.tmp rfl) .nil)) (vec2_Sub_ok hr2) rfl rfl) rfl (lt_b rfl) ?_
  refine GoD.al rfl rfl zt24 rfl (lt_b rfl) ?_
  refine GoD.s rfl (Z := (Vec.cells x3)) rfl rfl ts24 (.tmp rfl) rfl (.tmp rfl) rfl rfl (le_b rfl) (congrArg (fun (x : Vec) => (Vec.cells x)) hx3) ?_
  refine GoD.nil ⟨by kernel_rfl, by kernel_rfl, by kernel_rfl, by kernel_rfl, by kernel_rfl, ?_⟩
  refine GoT.nil ?_
  refine bind_e h fun r4 hr4 h => ?_
  refine let_e h fun r5 hr5 h => ?_
  refine let_e h fun x6 hx6 h => ?_
  refine Wp.seq ?_
  refine Wp.drawn2 (n0 := 8) [] mixed ?_
  refine GoD.q rfl (QEx.fldP 5 rfl uT29 rfl ts24 rfl (.tmp rfl) rfl) rfl (lt_b rfl) ?_
  refine GoD.qr rfl rfl (QEx.ldP (Body.cells b) (Vec.av b.Velocity) rfl ag24 ts24 (.tmp rfl) (le_b rfl) rfl) rfl (lt_b rfl) ?_
  refine GoD.q rfl (QEx.fldP 7 rfl uT29 rfl ts3 rfl (.tmp rfl) rfl) rfl (lt_b rfl) ?_
  refine GoD.qr rfl rfl (QEx.ldP1 (Body.cells b) (iAV b.AngularVelocity) rfl ag3 (.tmp rfl) rfl) rfl (lt_b rfl) ?_
  refine GoD.qr rfl rfl (QEx.ldP (Vec.cells x3) (Vec.av x3) rfl ag24 ts24 (.tmp rfl) (le_b rfl) rfl) rfl (lt_b rfl) ?_
  refine GoD.q rfl (QEx.cal0 (r := (Vec.av r4)) [(iAV b.AngularVelocity), (Vec.av x3)] rfl Tryz.call53 (.cons (.tmp rfl) (.cons (.tmp rfl) .nil)) (vec2_CrossScalar_ok hr4) rfl rfl) rfl (lt_b rfl) ?_
  refine GoD.q rfl (QEx.cal0 (r := (Vec.av r5)) [(Vec.av b.Velocity), (Vec.av r4)] rfl Tryz.call52 (.cons (.tmp rfl) (.cons (.tmp rfl) .nil)) (vec2_Add_ok hr5) rfl rfl) rfl (lt_b rfl) ?_
  refine GoD.s rfl (Z := (Vec.cells x6)) rfl rfl ts24 (.tmp rfl) rfl (.tmp rfl) rfl rfl (le_b rfl) (congrArg (fun (x : Vec) => (Vec.cells x)) hx6) ?_
  refine GoD.nil ⟨by kernel_rfl, by kernel_rfl, by kernel_rfl, by kernel_rfl, by kernel_rfl, ?_⟩
  refine GoT.nil ?_
  refine Wp.ret ?_
  cases h
  exact LeafQ.ret [] (by decide) (.cons (.agg rfl rfl ag24 ts24) .nil) rfl
theorem ref03_CrossScalar_ok {w : Int} {v_1 : Vec} {r : Vec} (h : ref03_CrossScalar w v_1 = some r) : FnR Tryz.prog 55 [(iAV w), (Vec.av v_1)] (Vec.av r) := by
  refine FnR.intro' (fn := Tryz.f55) (N := 15) Tryz.func55 rfl rfl (Nat.le_of_ble_eq_true rfl) [3, 4] ?_
  refine Wp.seq ?_
  refine Wp.region ?_
  refine GoT.a rfl (AEx.bx (Z := (Vec.cells v_1)) rfl (.tmp rfl) rfl rfl rfl rfl) rfl (lt_b rfl) ?_
  refine GoT.a rfl (AEx.alZ rfl zt24 rfl rfl) rfl (lt_b rfl) ?_
  refine GoT.nil ?_
  refine bind_e h fun r1 hr1 h => ?_
  refine bind_e h fun r2 hr2 h => ?_
  refine let_e h fun x3 hx3 h => ?_
  refine Wp.seq ?_
  refine Wp.drawn2 (n0 := 11) [] mixed ?_
  refine GoD.q rfl (QEx.move rfl (.tmp rfl)) rfl (lt_b rfl) ?_
  refine GoD.q rfl (QEx.fldP 1 rfl uT24 rfl ts3 rfl (.tmp rfl) rfl) rfl (lt_b rfl) ?_
  refine GoD.qr rfl rfl (QEx.ldP1 (Vec.cells v_1) (iAV v_1.Y) rfl ag3 (.tmp rfl) rfl) rfl (lt_b rfl) ?_
  refine GoD.q rfl (QEx.cal0 (r := (iAV r1)) [(iAV w), (iAV v_1.Y)] rfl Tryz.call65 (.cons (.tmp rfl) (.cons (.tmp rfl) .nil)) (ref01_Mul_ok hr1) rfl rfl) rfl (lt_b rfl) ?_
  refine GoD.q rfl (QEx.negK rfl (.tmp rfl)) rfl (lt_b rfl) ?_
  refine GoD.q rfl (QEx.move rfl (.tmp rfl)) rfl (lt_b rfl) ?_
  refine GoD.q rfl (QEx.fldP 0 rfl uT24 rfl ts3 rfl (.tmp rfl) rfl) rfl (lt_b rfl) ?_
  refine GoD.qr rfl rfl (QEx.ldP1 (Vec.cells v_1) (iAV v_1.X) rfl ag3 (.tmp rfl) rfl) rfl (lt_b rfl) ?_
  refine GoD.q rfl (QEx.cal0 (r := (iAV r2)) [(iAV w), (iAV v_1.X)] rfl Tryz.call65 (.cons (.tmp rfl) (.cons (.tmp rfl) .nil)) (ref01_Mul_ok hr2) rfl rfl) rfl (lt_b rfl) ?_
  refine GoD.q rfl (QEx.as (Vec.av (⟨(w64 (0 - r1)), r2⟩ : Vec)) (QEx.buildZ rfl uT24 zt24 (by kernel_rfl) (.cons rfl (.tmp rfl) rfl rfl (le_b rfl) (.cons rfl (.tmp rfl) rfl rfl (le_b rfl) .nil)))) rfl (lt_b rfl) ?_
  refine GoD.s rfl (Z := (Vec.cells x3)) rfl rfl ts24 (.tmp rfl) rfl (.tmp rfl) rfl rfl (le_b rfl) (congrArg (fun (x : Vec) => (Vec.cells x)) hx3) ?_
  refine GoD.nil ⟨by kernel_rfl, by kernel_rfl, by kernel_rfl, by kernel_rfl, by kernel_rfl, ?_⟩
  refine GoT.nil ?_
  refine Wp.ret ?_
  cases h
  exact LeafQ.ret [] (by decide) (.cons (.agg rfl rfl ag24 ts24) .nil) rfl
theorem ref23_VelocityAt_ok {b : Body} {point : Vec} {r : Vec} (h : ref23_VelocityAt b point = some r) : FnR Tryz.prog 21 [(Body.av b), (Vec.av point)] (Vec.av r) := by
  refine FnR.intro' (fn := Tryz.f21) (N := 15) Tryz.func21 rfl rfl (Nat.le_of_ble_eq_true rfl) [2, 3, 4] ?_
  refine Wp.seq ?_
  refine Wp.region ?_
  refine GoT.a rfl (AEx.bx (Z := (Body.cells b)) rfl (.tmp rfl) rfl rfl rfl rfl) rfl (lt_b rfl) ?_
  refine GoT.a rfl (AEx.bx (Z := (Vec.cells point)) rfl (.tmp rfl) rfl rfl rfl rfl) rfl (lt_b rfl) ?_
  refine GoT.a rfl (AEx.alZ rfl zt24 rfl rfl) rfl (lt_b rfl) ?_
  refine GoT.nil ?_
  refine bind_e h fun r1 hr1 h => ?_
  refine let_e h fun r2 hr2 h => ?_
  refine bind_e h fun r3 hr3 h => ?_
  refine let_e h fun r4 hr4 h => ?_
  refine let_e h fun x5 hx5 h => ?_
  refine Wp.seq ?_
  refine Wp.drawn2 (n0 := 11) [] mixed ?_
  refine GoD.q rfl (QEx.fldP 5 rfl uT29 rfl ts24 rfl (.tmp rfl) rfl) rfl (lt_b rfl) ?_
  refine GoD.qr rfl rfl (QEx.ldP (Body.cells b) (Vec.av b.Velocity) rfl ag24 ts24 (.tmp rfl) (le_b rfl) rfl) rfl (lt_b rfl) ?_
  refine GoD.q rfl (QEx.fldP 7 rfl uT29 rfl ts3 rfl (.tmp rfl) rfl) rfl (lt_b rfl) ?_
  refine GoD.qr rfl rfl (QEx.ldP1 (Body.cells b) (iAV b.AngularVelocity) rfl ag3 (.tmp rfl) rfl) rfl (lt_b rfl) ?_
  refine GoD.qr rfl rfl (QEx.ldP (Vec.cells point) (Vec.av point) rfl ag24 ts24 (.tmp rfl) (le_b rfl) rfl) rfl (lt_b rfl) ?_
  refine GoD.qr rfl rfl (QEx.ldP (Body.cells b) (Body.av b) rfl ag29 ts29 (.tmp rfl) (le_b rfl) rfl) rfl (lt_b rfl) ?_
  refine GoD.q rfl (QEx.cal0 (r := (Vec.av r1)) [(Body.av b)] rfl Tryz.call17 (.cons (.tmp rfl) .nil) (ref23_WorldCenter_ok hr1) rfl rfl) rfl (lt_b rfl) ?_
  refine GoD.q rfl (QEx.cal0 (r := (Vec.av r2)) [(Vec.av point), (Vec.av r1)] rfl Tryz.call56 (.cons (.tmp rfl) (.cons (.tmp rfl) .nil)) (ref03_Sub_ok hr2) rfl rfl) rfl (lt_b rfl) ?_
  refine GoD.q rfl (QEx.cal0 (r := (Vec.av r3)) [(iAV b.AngularVelocity), (Vec.av r2)] rfl Tryz.call55 (.cons (.tmp rfl) (.cons (.tmp rfl) .nil)) (ref03_CrossScalar_ok hr3) rfl rfl) rfl (lt_b rfl) ?_
  refine GoD.q rfl (QEx.cal0 (r := (Vec.av r4)) [(Vec.av b.Velocity), (Vec.av r3)] rfl Tryz.call54 (.cons (.tmp rfl) (.cons (.tmp rfl) .nil)) (ref03_Add_ok hr4) rfl rfl) rfl (lt_b rfl) ?_
  refine GoD.s rfl (Z := (Vec.cells x5)) rfl rfl ts24 (.tmp rfl) rfl (.tmp rfl) rfl rfl (le_b rfl) (congrArg (fun (x : Vec) => (Vec.cells x)) hx5) ?_
  refine GoD.nil ⟨by kernel_rfl, by kernel_rfl, by kernel_rfl, by kernel_rfl, by kernel_rfl, ?_⟩
  refine GoT.nil ?_
  refine Wp.ret ?_
  cases h
  exact LeafQ.ret [] (by decide) (.cons (.agg rfl rfl ag24 ts24) .nil) rfl
theorem ref05_Overlaps_ok {a : AABB} {b : AABB} {r : Bool} (h : ref05_Overlaps a b = r) : FnR Tryz.prog 176 [(AABB.av a), (AABB.av b)] (boolAV r) := by
  refine FnR.intro' (fn := Tryz.f176) (N := 47) Tryz.func176 rfl rfl (Nat.le_of_ble_eq_true rfl) [2, 3] ?_
  refine Wp.seq ?_
  refine Wp.region ?_
  refine GoT.a rfl (AEx.bx (Z := (AABB.cells a)) rfl (.tmp rfl) rfl rfl rfl rfl) rfl (lt_b rfl) ?_
  refine GoT.a rfl (AEx.bx (Z := (AABB.cells b)) rfl (.tmp rfl) rfl rfl rfl rfl) rfl (lt_b rfl) ?_
  refine GoT.q rfl (QEx.as (boolAV false) (QEx.assign rfl .con)) rfl (lt_b rfl) ?_
  refine GoT.nil ?_
  refine let_e h fun r1 hr1 h => ?_
  refine let_e h fun r2 hr2 h => ?_
  refine let_e h fun x3 hx3 h => ?_
  refine Wp.seq ?_
  refine Wp.region ?_
  refine GoT.qr rfl rfl (QEx.ldP (AABB.cells a) (AABB.av a) rfl ag45 ts45 (.tmp rfl) (le_b rfl) rfl) rfl (lt_b rfl) ?_
  refine GoT.q rfl (QEx.cal0 (r := (boolAV r1)) [(AABB.av a)] rfl Tryz.call99 (.cons (.tmp rfl) .nil) (ref05_Valid_ok hr1) rfl rfl) rfl (lt_b rfl) ?_
  refine GoT.q rfl (QEx.move rfl (.tmp rfl)) rfl (lt_b rfl) ?_
  refine GoT.gr rfl rfl rfl rfl (fun hg => QEx.ldP (AABB.cells b) (AABB.av b) rfl ag45 ts45 (.tmp rfl) (le_b rfl) rfl) rfl (lt_b rfl) ?_
  refine GoT.g rfl rfl rfl (fun hg => QEx.cal0 (r := (boolAV r2)) [(AABB.av b)] rfl Tryz.call99 (.cons (.opt (.tmp rfl) hg) .nil) (ref05_Valid_ok hr2) rfl rfl) rfl (lt_b rfl) ?_
  refine GoT.q rfl (QEx.pickK rfl (.tmp rfl) (fun hp => (.opt (.tmp rfl) (beq_t hp))) (fun hp => .con)) rfl (lt_b rfl) ?_
  refine GoT.q rfl (QEx.move rfl (.tmp rfl)) rfl (lt_b rfl) ?_
  refine GoT.g rfl rfl rfl (fun hg => QEx.fldP 0 rfl uT45 rfl ts24 rfl (.tmp rfl) rfl) rfl (lt_b rfl) ?_
  refine GoT.g rfl rfl rfl (fun hg => QEx.fldP 0 rfl uT24 rfl ts3 rfl (.opt (.tmp rfl) hg) rfl) rfl (lt_b rfl) ?_
  refine GoT.gr rfl rfl rfl rfl (fun hg => QEx.ldP1 (AABB.cells a) (iAV a.Min.X) rfl ag3 (.opt (.tmp rfl) hg) rfl) rfl (lt_b rfl) ?_
  refine GoT.g rfl rfl rfl (fun hg => QEx.fldP 2 rfl uT45 rfl ts24 rfl (.tmp rfl) rfl) rfl (lt_b rfl) ?_
  refine GoT.g rfl rfl rfl (fun hg => QEx.fldP 2 rfl uT24 rfl ts3 rfl (.opt (.tmp rfl) hg) rfl) rfl (lt_b rfl) ?_
  refine GoT.gr rfl rfl rfl rfl (fun hg => QEx.ldP1 (AABB.cells b) (iAV b.Max.X) rfl ag3 (.opt (.tmp rfl) hg) rfl) rfl (lt_b rfl) ?_
  refine GoT.g rfl rfl rfl (fun hg => QEx.leqK rfl (.opt (.tmp rfl) hg) (.opt (.tmp rfl) hg)) rfl (lt_b rfl) ?_
  refine GoT.q rfl (QEx.pickK rfl (.tmp rfl) (fun hp => (.opt (.tmp rfl) (beq_t hp))) (fun hp => .con)) rfl (lt_b rfl) ?_
  refine GoT.q rfl (QEx.move rfl (.tmp rfl)) rfl (lt_b rfl) ?_
  refine GoT.g rfl rfl rfl (fun hg => QEx.fldP 0 rfl uT45 rfl ts24 rfl (.tmp rfl) rfl) rfl (lt_b rfl) ?_
  refine GoT.g rfl rfl rfl (fun hg => QEx.fldP 0 rfl uT24 rfl ts3 rfl (.opt (.tmp rfl) hg) rfl) rfl (lt_b rfl) ?_
  refine GoT.gr rfl rfl rfl rfl (fun hg => QEx.ldP1 (AABB.cells b) (iAV b.Min.X) rfl ag3 (.opt (.tmp rfl) hg) rfl) rfl (lt_b rfl) ?_
  refine GoT.g rfl rfl rfl (fun hg => QEx.fldP 2 rfl uT45 rfl ts24 rfl (.tmp rfl) rfl) rfl (lt_b rfl) ?_
  refine GoT.g rfl rfl rfl (fun hg => QEx.fldP 2 rfl uT24 rfl ts3 rfl (.opt (.tmp rfl) hg) rfl) rfl (lt_b rfl) ?_
  refine GoT.gr rfl rfl rfl rfl (fun hg => QEx.ldP1 (AABB.cells a) (iAV a.Max.X) rfl ag3 (.opt (.tmp rfl) hg) rfl) rfl (lt_b rfl) ?_
  refine GoT.g rfl rfl rfl (fun hg => QEx.leqK rfl (.opt (.tmp rfl) hg) (.opt (.tmp rfl) hg)) rfl (lt_b rfl) ?_
  refine GoT.q rfl (QEx.pickK rfl (.tmp rfl) (fun hp => (.opt (.tmp rfl) (beq_t hp))) (fun hp => .con)) rfl (lt_b rfl) ?_
  refine GoT.q rfl (QEx.move rfl (.tmp rfl)) rfl (lt_b rfl) ?_
  refine GoT.g rfl rfl rfl (fun hg => QEx.fldP 0 rfl uT45 rfl ts24 rfl (.tmp rfl) rfl) rfl (lt_b rfl) ?_
  refine GoT.g rfl rfl rfl (fun hg => QEx.fldP 1 rfl uT24 rfl ts3 rfl (.opt (.tmp rfl) hg) rfl) rfl (lt_b rfl) ?_
  refine GoT.gr rfl rfl rfl rfl (fun hg => QEx.ldP1 (AABB.cells a) (iAV a.Min.Y) rfl ag3 (.opt (.tmp rfl) hg) rfl) rfl (lt_b rfl) ?_
  refine GoT.g rfl rfl rfl (fun hg => QEx.fldP 2 rfl uT45 rfl ts24 rfl (.tmp rfl) rfl) rfl (lt_b rfl) ?_
  refine GoT.g rfl rfl rfl (fun hg => QEx.fldP 3 rfl uT24 rfl ts3 rfl (.opt (.tmp rfl) hg) rfl) rfl (lt_b rfl) ?_
  refine GoT.gr rfl rfl rfl rfl (fun hg => QEx.ldP1 (AABB.cells b) (iAV b.Max.Y) rfl ag3 (.opt (.tmp rfl) hg) rfl) rfl (lt_b rfl) ?_
  refine GoT.g rfl rfl rfl (fun hg => QEx.leqK rfl (.opt (.tmp rfl) hg) (.opt (.tmp rfl) hg)) rfl (lt_b rfl) ?_
  refine GoT.q rfl (QEx.pickK rfl (.tmp rfl) (fun hp => (.opt (.tmp rfl) (beq_t hp))) (fun hp => .con)) rfl (lt_b rfl) ?_
  refine GoT.q rfl (QEx.move rfl (.tmp rfl)) rfl (lt_b rfl) ?_
  refine GoT.g rfl rfl rfl (fun hg => QEx.fldP 0 rfl uT45 rfl ts24 rfl (.tmp rfl) rfl) rfl (lt_b rfl) ?_
  refine GoT.g rfl rfl rfl (fun hg => QEx.fldP 1 rfl uT24 rfl ts3 rfl (.opt (.tmp rfl) hg) rfl) rfl (lt_b rfl) ?_
  refine GoT.gr rfl rfl rfl rfl (fun hg => QEx.ldP1 (AABB.cells b) (iAV b.Min.Y) rfl ag3 (.opt (.tmp rfl) hg) rfl) rfl (lt_b rfl) ?_
  refine GoT.g rfl rfl rfl (fun hg => QEx.fldP 2 rfl uT45 rfl ts24 rfl (.tmp rfl) rfl) rfl (lt_b rfl) ?_
  refine GoT.g rfl rfl rfl (fun hg => QEx.fldP 3 rfl uT24 rfl ts3 rfl (.opt (.tmp rfl) hg) rfl) rfl (lt_b rfl) ?_
  refine GoT.gr rfl rfl rfl rfl (fun hg => QEx.ldP1 (AABB.cells a) (iAV a.Max.Y) rfl ag3 (.opt (.tmp rfl) hg) rfl) rfl (lt_b rfl) ?_
  refine GoT.g rfl rfl rfl (fun hg => QEx.leqK rfl (.opt (.tmp rfl) hg) (.opt (.tmp rfl) hg)) rfl (lt_b rfl) ?_
  refine GoT.q rfl (QEx.pickK rfl (.tmp rfl) (fun hp => (.opt (.tmp rfl) (beq_t hp))) (fun hp => .con)) rfl (lt_b rfl) ?_
  refine GoT.q rfl (QEx.eq (QEx.assign rfl (.tmp rfl)) (congrArg boolAV hx3)) rfl (lt_b rfl) ?_
  refine GoT.nil ?_
  refine Wp.ret ?_
  cases h
  exact LeafQ.ret [] (by decide) (.cons (.tmp rfl) .nil) rfl
theorem ref10_Intersects_ok {a : Vec} {b : Vec} {c_2 : Vec} {d : Vec} {r : Bool} (h : ref10_Intersects a b c_2 d = some r) : FnR Tryz.prog 155 [(Vec.av a), (Vec.av b), (Vec.av c_2), (Vec.av d)] (boolAV r) := by
  refine FnR.intro' (fn := Tryz.f155) (N := 54) Tryz.func155 rfl rfl (Nat.le_of_ble_eq_true rfl) [4, 5, 6, 7, 9, 11, 16, 23] ?_
  refine Wp.seq ?_
  refine Wp.region ?_
  refine GoT.a rfl (AEx.bx (Z := (Vec.cells a)) rfl (.tmp rfl) rfl rfl rfl rfl) rfl (lt_b rfl) ?_
  refine GoT.a rfl (AEx.bx (Z := (Vec.cells b)) rfl (.tmp rfl) rfl rfl rfl rfl) rfl (lt_b rfl) ?_
  refine GoT.a rfl (AEx.bx (Z := (Vec.cells c_2)) rfl (.tmp rfl) rfl rfl rfl rfl) rfl (lt_b rfl) ?_
  refine GoT.a rfl (AEx.bx (Z := (Vec.cells d)) rfl (.tmp rfl) rfl rfl rfl rfl) rfl (lt_b rfl) ?_
  refine GoT.q rfl (QEx.as (boolAV false) (QEx.assign rfl .con)) rfl (lt_b rfl) ?_
  refine GoT.nil ?_
  refine bind_e h fun r1 hr1 h => ?_
  refine let_e h fun x2 hx2 h => ?_
  refine Wp.seq ?_
  refine Wp.region ?_
  refine GoT.qr rfl rfl (QEx.ldP (Vec.cells a) (Vec.av a) rfl ag24 ts24 (.tmp rfl) (le_b rfl) rfl) rfl (lt_b rfl) ?_
  refine GoT.qr rfl rfl (QEx.ldP (Vec.cells b) (Vec.av b) rfl ag24 ts24 (.tmp rfl) (le_b rfl) rfl) rfl (lt_b rfl) ?_
  refine GoT.q rfl (QEx.as (slT 16 0 2 Vec.av ([a, b] : List Vec)) (QEx.buildSlice rfl et31 (.cons (.tmp rfl) rfl rfl rfl (.cons (.tmp rfl) rfl rfl rfl .nil)) rfl (by decide))) rfl (lt_b rfl) ?_
  refine GoT.q rfl (QEx.cal0 (r := (.tup [(AABB.av r1.1), (boolAV r1.2)])) [((slAV 2 Vec.av) ([a, b] : List Vec))] rfl Tryz.call100 (.cons (.tmp rfl) .nil) (ref05_FromPoints_ok hr1) rfl rfl) rfl (lt_b rfl) ?_
  refine GoT.q rfl (QEx.move rfl (.tmp rfl)) rfl (lt_b rfl) ?_
  refine GoT.q rfl (QEx.extract rfl (.tmp rfl) rfl) rfl (lt_b rfl) ?_
  refine GoT.q rfl (QEx.extract rfl (.tmp rfl) rfl) rfl (lt_b rfl) ?_
  refine GoT.a rfl (AEx.alZ rfl zt45 rfl rfl) rfl (lt_b rfl) ?_
  refine GoT.s rfl (AEx.sto (Z := (AABB.cells x2)) rfl rfl ts45 (.tmp rfl) rfl (.tmp rfl) rfl rfl (le_b rfl) (congrArg (fun (x : AABB) => (AABB.cells x)) hx2)) rfl ?_
  refine GoT.q rfl (QEx.assign rfl (.tmp rfl)) rfl (lt_b rfl) ?_
  refine GoT.nil ?_
  refine bind_e h fun r3 hr3 h => ?_
  refine let_e h fun x4 hx4 h => ?_
  refine Wp.seq ?_
  refine Wp.region ?_
  refine GoT.qr rfl rfl (QEx.ldP (Vec.cells c_2) (Vec.av c_2) rfl ag24 ts24 (.tmp rfl) (le_b rfl) rfl) rfl (lt_b rfl) ?_
  refine GoT.qr rfl rfl (QEx.ldP (Vec.cells d) (Vec.av d) rfl ag24 ts24 (.tmp rfl) (le_b rfl) rfl) rfl (lt_b rfl) ?_
  refine GoT.q rfl (QEx.as (slT 23 0 2 Vec.av ([c_2, d] : List Vec)) (QEx.buildSlice rfl et31 (.cons (.tmp rfl) rfl rfl rfl (.cons (.tmp rfl) rfl rfl rfl .nil)) rfl (by decide))) rfl (lt_b rfl) ?_
  refine GoT.q rfl (QEx.cal0 (r := (.tup [(AABB.av r3.1), (boolAV r3.2)])) [((slAV 2 Vec.av) ([c_2, d] : List Vec))] rfl Tryz.call100 (.cons (.tmp rfl) .nil) (ref05_FromPoints_ok hr3) rfl rfl) rfl (lt_b rfl) ?_
  refine GoT.q rfl (QEx.move rfl (.tmp rfl)) rfl (lt_b rfl) ?_
  refine GoT.q rfl (QEx.extract rfl (.tmp rfl) rfl) rfl (lt_b rfl) ?_
  refine GoT.q rfl (QEx.extract rfl (.tmp rfl) rfl) rfl (lt_b rfl) ?_
  refine GoT.a rfl (AEx.alZ rfl zt45 rfl rfl) rfl (lt_b rfl) ?_
  refine GoT.s rfl (AEx.sto (Z := (AABB.cells x4)) rfl rfl ts45 (.tmp rfl) rfl (.tmp rfl) rfl rfl (le_b rfl) (congrArg (fun (x : AABB) => (AABB.cells x)) hx4)) rfl ?_
  refine GoT.q rfl (QEx.assign rfl (.tmp rfl)) rfl (lt_b rfl) ?_
  refine GoT.nil ?_
  refine let_e h fun r5 hr5 h => ?_
  refine let_e h fun r6 hr6 h => ?_
  refine let_e h fun r7 hr7 h => ?_
  refine let_e h fun r8 hr8 h => ?_
  refine let_e h fun r9 hr9 h => ?_
  refine let_e h fun x10 hx10 h => ?_
  refine Wp.seq ?_
  refine Wp.drawn2 (n0 := 28) [16, 23] mixed ?_
  refine GoD.qr rfl rfl (QEx.ldP (Vec.cells a) (Vec.av a) rfl ag24 ts24 (.tmp rfl) (le_b rfl) rfl) rfl (lt_b rfl) ?_
  refine GoD.qr rfl rfl (QEx.ldP (Vec.cells b) (Vec.av b) rfl ag24 ts24 (.tmp rfl) (le_b rfl) rfl) rfl (lt_b rfl) ?_
  refine GoD.qr rfl rfl (QEx.ldP (Vec.cells c_2) (Vec.av c_2) rfl ag24 ts24 (.tmp rfl) (le_b rfl) rfl) rfl (lt_b rfl) ?_
  refine GoD.q rfl (QEx.cal0 (r := (iAV r5)) [(Vec.av a), (Vec.av b), (Vec.av c_2)] rfl Tryz.call115 (.cons (.tmp rfl) (.cons (.tmp rfl) (.cons (.tmp rfl) .nil))) (ref03_Orientation_ok hr5) rfl rfl) rfl (lt_b rfl) ?_
  refine GoD.qr rfl rfl (QEx.ldP (Vec.cells a) (Vec.av a) rfl ag24 ts24 (.tmp rfl) (le_b rfl) rfl) rfl (lt_b rfl) ?_
  refine GoD.qr rfl rfl (QEx.ldP (Vec.cells b) (Vec.av b) rfl ag24 ts24 (.tmp rfl) (le_b rfl) rfl) rfl (lt_b rfl) ?_
  refine GoD.qr rfl rfl (QEx.ldP (Vec.cells d) (Vec.av d) rfl ag24 ts24 (.tmp rfl) (le_b rfl) rfl) rfl (lt_b rfl) ?_
  refine GoD.q rfl (QEx.cal0 (r := (iAV r6)) [(Vec.av a), (Vec.av b), (Vec.av d)] rfl Tryz.call115 (.cons (.tmp rfl) (.cons (.tmp rfl) (.cons (.tmp rfl) .nil))) (ref03_Orientation_ok hr6) rfl rfl) rfl (lt_b rfl) ?_
  refine GoD.q rfl (QEx.mulK rfl (.tmp rfl) (.tmp rfl)) rfl (lt_b rfl) ?_
  refine GoD.q rfl (QEx.leqK rfl (.tmp rfl) .con) rfl (lt_b rfl) ?_
  refine GoD.q rfl (QEx.move rfl (.tmp rfl)) rfl (lt_b rfl) ?_
  refine GoD.gr rfl rfl rfl rfl (fun hg => QEx.ldP (Vec.cells c_2) (Vec.av c_2) rfl ag24 ts24 (.tmp rfl) (le_b rfl) rfl) rfl (lt_b rfl) ?_
  refine GoD.gr rfl rfl rfl rfl (fun hg => QEx.ldP (Vec.cells d) (Vec.av d) rfl ag24 ts24 (.tmp rfl) (le_b rfl) rfl) rfl (lt_b rfl) ?_
  refine GoD.gr rfl rfl rfl rfl (fun hg => QEx.ldP (Vec.cells a) (Vec.av a) rfl ag24 ts24 (.tmp rfl) (le_b rfl) rfl) rfl (lt_b rfl) ?_
  refine GoD.g rfl rfl rfl (fun hg => QEx.cal0 (r := (iAV r7)) [(Vec.av c_2), (Vec.av d), (Vec.av a)] rfl Tryz.call115 (.cons (.opt (.tmp rfl) hg) (.cons (.opt (.tmp rfl) hg) (.cons (.opt (.tmp rfl) hg) .nil))) (ref03_Orientation_ok hr7) rfl rfl) rfl (lt_b rfl) ?_
  refine GoD.gr rfl rfl rfl rfl (fun hg => QEx.ldP (Vec.cells c_2) (Vec.av c_2) rfl ag24 ts24 (.tmp rfl) (le_b rfl) rfl) rfl (lt_b rfl) ?_
  refine GoD.gr rfl rfl rfl rfl (fun hg => QEx.ldP (Vec.cells d) (Vec.av d) rfl ag24 ts24 (.tmp rfl) (le_b rfl) rfl) rfl (lt_b rfl) ?_
  refine GoD.gr rfl rfl rfl rfl (fun hg => QEx.ldP (Vec.cells b) (Vec.av b) rfl ag24 ts24 (.tmp rfl) (le_b rfl) rfl) rfl (lt_b rfl) ?_
  refine GoD.g rfl rfl rfl (fun hg => QEx.cal0 (r := (iAV r8)) [(Vec.av c_2), (Vec.av d), (Vec.av b)] rfl Tryz.call115 (.cons (.opt (.tmp rfl) hg) (.cons (.opt (.tmp rfl) hg) (.cons (.opt (.tmp rfl) hg) .nil))) (ref03_Orientation_ok hr8) rfl rfl) rfl (lt_b rfl) ?_
  refine GoD.g rfl rfl rfl (fun hg => QEx.mulK rfl (.opt (.tmp rfl) hg) (.opt (.tmp rfl) hg)) rfl (lt_b rfl) ?_
  refine GoD.g rfl rfl rfl (fun hg => QEx.leqK rfl (.opt (.tmp rfl) hg) .con) rfl (lt_b rfl) ?_
  refine GoD.q rfl (QEx.pickK rfl (.tmp rfl) (fun hp => (.opt (.tmp rfl) (beq_t hp))) (fun hp => .con)) rfl (lt_b rfl) ?_
  refine GoD.q rfl (QEx.move rfl (.tmp rfl)) rfl (lt_b rfl) ?_
  refine GoD.gr rfl rfl rfl rfl (fun hg => QEx.ldP (AABB.cells x2) (AABB.av x2) rfl ag45 ts45 (.tmp rfl) (le_b rfl) rfl) rfl (lt_b rfl) ?_
  refine GoD.gr rfl rfl rfl rfl (fun hg => QEx.ldP (AABB.cells x4) (AABB.av x4) rfl ag45 ts45 (.tmp rfl) (le_b rfl) rfl) rfl (lt_b rfl) ?_
  refine GoD.g rfl rfl rfl (fun hg => QEx.cal0 (r := (boolAV r9)) [(AABB.av x2), (AABB.av x4)] rfl Tryz.call176 (.cons (.opt (.tmp rfl) hg) (.cons (.opt (.tmp rfl) hg) .nil)) (ref05_Overlaps_ok hr9) rfl rfl) rfl (lt_b rfl) ?_
  refine GoD.q rfl (QEx.pickK rfl (.tmp rfl) (fun hp => (.opt (.tmp rfl) (beq_t hp))) (fun hp => .con)) rfl (lt_b rfl) ?_
  refine GoD.q rfl (QEx.eq (QEx.assign rfl (.tmp rfl)) (congrArg boolAV hx10)) rfl (lt_b rfl) ?_
  refine GoD.nil ⟨by kernel_rfl, by kernel_rfl, by kernel_rfl, by kernel_rfl, by kernel_rfl, ?_⟩
  refine GoT.nil ?_
  refine Wp.ret ?_
  cases h
  exact LeafQ.ret [] (by decide) (.cons (.tmp rfl) .nil) rfl
theorem ref10_saturated_ok {v_0 : Vec} {r : Vec} (h : ref10_saturated v_0 = r) : FnR Tryz.prog 177 [(Vec.av v_0)] (Vec.av r) := by
  refine FnR.intro' (fn := Tryz.f177) (N := 10) Tryz.func177 rfl rfl (Nat.le_of_ble_eq_true rfl) [1, 2] ?_
  refine Wp.seq ?_
  refine Wp.region ?_
  refine GoT.a rfl (AEx.bx (Z := (Vec.cells v_0)) rfl (.tmp rfl) rfl rfl rfl rfl) rfl (lt_b rfl) ?_
  refine GoT.a rfl (AEx.alZ rfl zt24 rfl rfl) rfl (lt_b rfl) ?_
  refine GoT.nil ?_
  refine let_e h fun r1 hr1 h => ?_
  refine let_e h fun r2 hr2 h => ?_
  refine let_e h fun x3 hx3 h => ?_
  refine Wp.seq ?_
  refine Wp.drawn2 (n0 := 8) [] mixed ?_
  refine GoD.q rfl (QEx.fldP 0 rfl uT24 rfl ts3 rfl (.tmp rfl) rfl) rfl (lt_b rfl) ?_
  refine GoD.qr rfl rfl (QEx.ldP1 (Vec.cells v_0) (iAV v_0.X) rfl ag3 (.tmp rfl) rfl) rfl (lt_b rfl) ?_
  refine GoD.q rfl (QEx.cal0 (r := (iAV r1)) [(iAV v_0.X)] rfl Tryz.call121 (.cons (.tmp rfl) .nil) (ref01_Saturate_ok hr1) rfl rfl) rfl (lt_b rfl) ?_
  refine GoD.q rfl (QEx.fldP 1 rfl uT24 rfl ts3 rfl (.tmp rfl) rfl) rfl (lt_b rfl) ?_
  refine GoD.qr rfl rfl (QEx.ldP1 (Vec.cells v_0) (iAV v_0.Y) rfl ag3 (.tmp rfl) rfl) rfl (lt_b rfl) ?_
  refine GoD.q rfl (QEx.cal0 (r := (iAV r2)) [(iAV v_0.Y)] rfl Tryz.call121 (.cons (.tmp rfl) .nil) (ref01_Saturate_ok hr2) rfl rfl) rfl (lt_b rfl) ?_
  refine GoD.q rfl (QEx.as (Vec.av (⟨r1, r2⟩ : Vec)) (QEx.buildZ rfl uT24 zt24 (by kernel_rfl) (.cons rfl (.tmp rfl) rfl rfl (le_b rfl) (.cons rfl (.tmp rfl) rfl rfl (le_b rfl) .nil)))) rfl (lt_b rfl) ?_
  refine GoD.s rfl (Z := (Vec.cells x3)) rfl rfl ts24 (.tmp rfl) rfl (.tmp rfl) rfl rfl (le_b rfl) (congrArg (fun (x : Vec) => (Vec.cells x)) hx3) ?_
  refine GoD.nil ⟨by kernel_rfl, by kernel_rfl, by kernel_rfl, by kernel_rfl, by kernel_rfl, ?_⟩
  refine GoT.nil ?_
  refine Wp.ret ?_
  cases h
  exact LeafQ.ret [] (by decide) (.cons (.agg rfl rfl ag24 ts24) .nil) rfl
theorem ref10_absCross_ok {c_0 : Vec} {d : Vec} {p : Vec} {r : Int} (h : ref10_absCross c_0 d p = r) : FnR Tryz.prog 178 [(Vec.av c_0), (Vec.av d), (Vec.av p)] (iAV r) := by
  refine FnR.intro' (fn := Tryz.f178) (N := 36) Tryz.func178 rfl rfl (Nat.le_of_ble_eq_true rfl) [3, 4, 5] ?_
  refine Wp.seq ?_
  refine Wp.region ?_
  refine GoT.a rfl (AEx.bx (Z := (Vec.cells c_0)) rfl (.tmp rfl) rfl rfl rfl rfl) rfl (lt_b rfl) ?_
  refine GoT.a rfl (AEx.bx (Z := (Vec.cells d)) rfl (.tmp rfl) rfl rfl rfl rfl) rfl (lt_b rfl) ?_
  refine GoT.a rfl (AEx.bx (Z := (Vec.cells p)) rfl (.tmp rfl) rfl rfl rfl rfl) rfl (lt_b rfl) ?_
  refine GoT.q rfl (QEx.as (iAV 0) (QEx.assign rfl .con)) rfl (lt_b rfl) ?_
  refine GoT.nil ?_
  refine let_e h fun x1 hx1 h => ?_
  refine Wp.seq ?_
  refine Wp.region ?_
  refine GoT.q rfl (QEx.fldP 0 rfl uT24 rfl ts3 rfl (.tmp rfl) rfl) rfl (lt_b rfl) ?_
  refine GoT.qr rfl rfl (QEx.ldP1 (Vec.cells d) (iAV d.X) rfl ag3 (.tmp rfl) rfl) rfl (lt_b rfl) ?_
  refine GoT.q rfl (QEx.fldP 0 rfl uT24 rfl ts3 rfl (.tmp rfl) rfl) rfl (lt_b rfl) ?_
  refine GoT.qr rfl rfl (QEx.ldP1 (Vec.cells c_0) (iAV c_0.X) rfl ag3 (.tmp rfl) rfl) rfl (lt_b rfl) ?_
  refine GoT.q rfl (QEx.subK rfl (.tmp rfl) (.tmp rfl)) rfl (lt_b rfl) ?_
  refine GoT.q rfl (QEx.fldP 1 rfl uT24 rfl ts3 rfl (.tmp rfl) rfl) rfl (lt_b rfl) ?_
  refine GoT.qr rfl rfl (QEx.ldP1 (Vec.cells p) (iAV p.Y) rfl ag3 (.tmp rfl) rfl) rfl (lt_b rfl) ?_
  refine GoT.q rfl (QEx.fldP 1 rfl uT24 rfl ts3 rfl (.tmp rfl) rfl) rfl (lt_b rfl) ?_
  refine GoT.qr rfl rfl (QEx.ldP1 (Vec.cells c_0) (iAV c_0.Y) rfl ag3 (.tmp rfl) rfl) rfl (lt_b rfl) ?_
  refine GoT.q rfl (QEx.subK rfl (.tmp rfl) (.tmp rfl)) rfl (lt_b rfl) ?_
  refine GoT.q rfl (QEx.mulK rfl (.tmp rfl) (.tmp rfl)) rfl (lt_b rfl) ?_
  refine GoT.q rfl (QEx.fldP 1 rfl uT24 rfl ts3 rfl (.tmp rfl) rfl) rfl (lt_b rfl) ?_
  refine GoT.qr rfl rfl (QEx.ldP1 (Vec.cells d) (iAV d.Y) rfl ag3 (.tmp rfl) rfl) rfl (lt_b rfl) ?_
  refine GoT.q rfl (QEx.fldP 1 rfl uT24 rfl ts3 rfl (.tmp rfl) rfl) rfl (lt_b rfl) ?_
  refine GoT.qr rfl rfl (QEx.ldP1 (Vec.cells c_0) (iAV c_0.Y) rfl ag3 (.tmp rfl) rfl) rfl (lt_b rfl) ?_
  refine GoT.q rfl (QEx.subK rfl (.tmp rfl) (.tmp rfl)) rfl (lt_b rfl) ?_
  refine GoT.q rfl (QEx.fldP 0 rfl uT24 rfl ts3 rfl (.tmp rfl) rfl) rfl (lt_b rfl) ?_
  refine GoT.qr rfl rfl (QEx.ldP1 (Vec.cells p) (iAV p.X) rfl ag3 (.tmp rfl) rfl) rfl (lt_b rfl) ?_
  refine GoT.q rfl (QEx.fldP 0 rfl uT24 rfl ts3 rfl (.tmp rfl) rfl) rfl (lt_b rfl) ?_
  refine GoT.qr rfl rfl (QEx.ldP1 (Vec.cells c_0) (iAV c_0.X) rfl ag3 (.tmp rfl) rfl) rfl (lt_b rfl) ?_
  refine GoT.q rfl (QEx.subK rfl (.tmp rfl) (.tmp rfl)) rfl (lt_b rfl) ?_
  refine GoT.q rfl (QEx.mulK rfl (.tmp rfl) (.tmp rfl)) rfl (lt_b rfl) ?_
  refine GoT.q rfl (QEx.eq (QEx.subK rfl (.tmp rfl) (.tmp rfl)) (congrArg iAV hx1)) rfl (lt_b rfl) ?_
  refine GoT.q rfl (QEx.assign rfl (.tmp rfl)) rfl (lt_b rfl) ?_
  refine GoT.nil ?_
  refine Wp.seq ?_
  refine Wp.seq ?_
  refine Wp.region ?_
  refine GoT.q rfl (QEx.move rfl (.tmp rfl)) rfl (lt_b rfl) ?_
  refine GoT.q rfl (QEx.lssK rfl (.tmp rfl) .con) rfl (lt_b rfl) ?_
  refine GoT.nil ?_
  refine Wp.condS h rfl (fun h => ?_) (fun h => ?_)
  · refine let_e h fun x2 hx2 h => ?_
    refine Wp.seq ?_
    refine Wp.region ?_
    refine GoT.q rfl (QEx.move rfl (.tmp rfl)) rfl (lt_b rfl) ?_
    refine GoT.q rfl (QEx.negK rfl (.tmp rfl)) rfl (lt_b rfl) ?_
    refine GoT.q rfl (QEx.eq (QEx.assign rfl (.tmp rfl)) (congrArg iAV hx2)) rfl (lt_b rfl) ?_
    refine GoT.nil ?_
    refine Wp.ret ?_
    cases h
    exact LeafQ.ret [] (by decide) (.cons (.tmp rfl) .nil) rfl
  · refine Wp.skip ?_
    refine Wp.seq ?_
    refine Wp.region ?_
    refine GoT.q rfl (QEx.move rfl (.tmp rfl)) rfl (lt_b rfl) ?_
    refine GoT.q rfl (QEx.assign rfl (.tmp rfl)) rfl (lt_b rfl) ?_
    refine GoT.nil ?_
    refine Wp.ret ?_
    cases h
    exact LeafQ.ret [] (by decide) (.cons (.tmp rfl) .nil) rfl
theorem ref01_Ratio_ok {n_0 : Int} {d : Int} {r : Int} (h : ref01_Ratio n_0 d = some r) : FnR Tryz.prog 179 [(iAV n_0), (iAV d)] (iAV r) := by
  refine FnR.intro' (fn := Tryz.f179) (N := 29) Tryz.func179 rfl rfl (Nat.le_of_ble_eq_true rfl) [] ?_
  refine Wp.seq ?_
  refine Wp.region ?_
  refine GoT.q rfl (QEx.as (iAV 0) (QEx.assign rfl .con)) rfl (lt_b rfl) ?_
  refine GoT.nil ?_
  refine Wp.seq ?_
  refine let_e h fun r1 hr1 h => ?_
  refine Wp.seq ?_
  refine Wp.region ?_
  refine GoT.q rfl (QEx.move rfl (.tmp rfl)) rfl (lt_b rfl) ?_
  refine GoT.q rfl (QEx.lssK rfl (.tmp rfl) .con) rfl (lt_b rfl) ?_
  refine GoT.q rfl (QEx.move rfl (.tmp rfl)) rfl (lt_b rfl) ?_
  refine GoT.g rfl rfl rfl (fun hg => QEx.move rfl (.tmp rfl)) rfl (lt_b rfl) ?_
  refine GoT.g rfl rfl rfl (fun hg => QEx.cal0 (r := (boolAV r1)) [(iAV d)] rfl Tryz.call159 (.cons (.opt (.tmp rfl) hg) .nil) (ref01_outOfRange_ok hr1) rfl rfl) rfl (lt_b rfl) ?_
  refine GoT.q rfl (QEx.pickK rfl (.tmp rfl) (fun hp => .con) (fun hp => (.opt (.tmp rfl) (beq_f hp)))) rfl (lt_b rfl) ?_
  refine GoT.q rfl (QEx.move rfl (.tmp rfl)) rfl (lt_b rfl) ?_
  refine GoT.g rfl rfl rfl (fun hg => QEx.move rfl (.tmp rfl)) rfl (lt_b rfl) ?_
  refine GoT.g rfl rfl rfl (fun hg => QEx.lssK rfl (.opt (.tmp rfl) hg) .con) rfl (lt_b rfl) ?_
  refine GoT.q rfl (QEx.pickK rfl (.tmp rfl) (fun hp => .con) (fun hp => (.opt (.tmp rfl) (beq_f hp)))) rfl (lt_b rfl) ?_
  refine GoT.nil ?_
  refine Wp.condS h rfl (fun h => ?_) (fun h => ?_)
  · refine Wp.seq ?_
    refine Wp.region ?_
    refine GoT.q rfl (QEx.as (iAV 0) (QEx.assign rfl .con)) rfl (lt_b rfl) ?_
    refine GoT.nil ?_
    refine Wp.ret ?_
    cases h
    exact LeafQ.ret [] (by decide) (.cons (.tmp rfl) .nil) rfl
  · refine Wp.skip ?_
    refine Wp.seq ?_
    refine Wp.seq ?_
    refine Wp.region ?_
    refine GoT.q rfl (QEx.move rfl (.tmp rfl)) rfl (lt_b rfl) ?_
    refine GoT.q rfl (QEx.move rfl (.tmp rfl)) rfl (lt_b rfl) ?_
    refine GoT.q rfl (QEx.geqK rfl (.tmp rfl) (.tmp rfl)) rfl (lt_b rfl) ?_
    refine GoT.nil ?_
    refine Wp.condS h rfl (fun h => ?_) (fun h => ?_)
    · refine Wp.seq ?_
      refine Wp.region ?_
      refine GoT.q rfl (QEx.as (iAV 65536) (QEx.assign rfl .con)) rfl (lt_b rfl) ?_
      refine GoT.nil ?_
      refine Wp.ret ?_
      cases h
      exact LeafQ.ret [] (by decide) (.cons (.tmp rfl) .nil) rfl
    · refine Wp.skip ?_
      refine Wp.seq ?_
      refine Wp.seq ?_
      refine Wp.region ?_
      refine GoT.q rfl (QEx.move rfl (.tmp rfl)) rfl (lt_b rfl) ?_
      refine GoT.q rfl (QEx.lssK rfl (.tmp rfl) .con) rfl (lt_b rfl) ?_
      refine GoT.nil ?_
      refine Wp.condS h rfl (fun h => ?_) (fun h => ?_)
      · refine bind_e h fun r2 hr2 h => ?_
        refine Wp.seq ?_
        refine Wp.region ?_
        refine GoT.q rfl (QEx.move rfl (.tmp rfl)) rfl (lt_b rfl) ?_
        refine GoT.q rfl (QEx.mulK rfl (.tmp rfl) .con) rfl (lt_b rfl) ?_
        refine GoT.q rfl (QEx.move rfl (.tmp rfl)) rfl (lt_b rfl) ?_
        refine GoT.q rfl (QEx.cal0 (r := (iAV r2)) [(iAV (w64 (n_0 * 65536))), (iAV d)] rfl Tryz.call122 (.cons (.tmp rfl) (.cons (.tmp rfl) .nil)) (ref01_RoundDiv_ok hr2) rfl rfl) rfl (lt_b rfl) ?_
        refine GoT.q rfl (QEx.assign rfl (.tmp rfl)) rfl (lt_b rfl) ?_
        refine GoT.nil ?_
        refine Wp.ret ?_
        cases h
        exact LeafQ.ret [] (by decide) (.cons (.tmp rfl) .nil) rfl
      · refine Wp.skip ?_
        refine bind_e h fun r3 hr3 h => ?_
        refine bind_e h fun r4 hr4 h => ?_
        refine let_e h fun x5 hx5 h => ?_
        refine Wp.seq ?_
        refine Wp.region ?_
        refine GoT.q rfl (QEx.move rfl (.tmp rfl)) rfl (lt_b rfl) ?_
        refine GoT.q rfl (QEx.move rfl (.tmp rfl)) rfl (lt_b rfl) ?_
        refine GoT.q rfl (QEx.cal0 (r := (iAV r3)) [(iAV d), (iAV 65536)] rfl Tryz.call122 (.cons (.tmp rfl) (.cons .con .nil)) (ref01_RoundDiv_ok hr3) rfl rfl) rfl (lt_b rfl) ?_
        refine GoT.q rfl (QEx.cal0 (r := (iAV r4)) [(iAV n_0), (iAV r3)] rfl Tryz.call122 (.cons (.tmp rfl) (.cons (.tmp rfl) .nil)) (ref01_RoundDiv_ok hr4) rfl rfl) rfl (lt_b rfl) ?_
        refine GoT.q rfl (QEx.minK rfl .con (.tmp rfl)) rfl (lt_b rfl) ?_
        refine GoT.q rfl (QEx.eq (QEx.assign rfl (.tmp rfl)) (congrArg iAV hx5)) rfl (lt_b rfl) ?_
        refine GoT.nil ?_
        refine Wp.ret ?_
        cases h
        exact LeafQ.ret [] (by decide) (.cons (.tmp rfl) .nil) rfl
theorem ref03_DistanceSquared_ok {a : Vec} {b : Vec} {r : Int} (h : ref03_DistanceSquared a b = r) : FnR Tryz.prog 157 [(Vec.av a), (Vec.av b)] (iAV r) := by
  refine FnR.intro' (fn := Tryz.f157) (N := 32) Tryz.func157 rfl rfl (Nat.le_of_ble_eq_true rfl) [2, 3] ?_
  refine Wp.seq ?_
  refine Wp.region ?_
  refine GoT.a rfl (AEx.bx (Z := (Vec.cells a)) rfl (.tmp rfl) rfl rfl rfl rfl) rfl (lt_b rfl) ?_
  refine GoT.a rfl (AEx.bx (Z := (Vec.cells b)) rfl (.tmp rfl) rfl rfl rfl rfl) rfl (lt_b rfl) ?_
  refine GoT.q rfl (QEx.as (iAV 0) (QEx.assign rfl .con)) rfl (lt_b rfl) ?_
  refine GoT.nil ?_
  refine let_e h fun r1 hr1 h => ?_
  refine let_e h fun x2 hx2 h => ?_
  refine Wp.seq ?_
  refine Wp.region ?_
  refine GoT.qr rfl rfl (QEx.ldP (Vec.cells a) (Vec.av a) rfl ag24 ts24 (.tmp rfl) (le_b rfl) rfl) rfl (lt_b rfl) ?_
  refine GoT.q rfl (QEx.cal0 (r := (Vec.av r1)) [(Vec.av a)] rfl Tryz.call123 (.cons (.tmp rfl) .nil) (ref03_Saturated_ok hr1) rfl rfl) rfl (lt_b rfl) ?_
  refine GoT.s rfl (AEx.sto (Z := (Vec.cells x2)) rfl rfl ts24 (.tmp rfl) rfl (.tmp rfl) rfl rfl (le_b rfl) (congrArg (fun (x : Vec) => (Vec.cells x)) hx2)) rfl ?_
  refine GoT.nil ?_
  refine let_e h fun r3 hr3 h => ?_
  refine let_e h fun x4 hx4 h => ?_
  refine Wp.seq ?_
  refine Wp.region ?_
  refine GoT.qr rfl rfl (QEx.ldP (Vec.cells b) (Vec.av b) rfl ag24 ts24 (.tmp rfl) (le_b rfl) rfl) rfl (lt_b rfl) ?_
  refine GoT.q rfl (QEx.cal0 (r := (Vec.av r3)) [(Vec.av b)] rfl Tryz.call123 (.cons (.tmp rfl) .nil) (ref03_Saturated_ok hr3) rfl rfl) rfl (lt_b rfl) ?_
  refine GoT.s rfl (AEx.sto (Z := (Vec.cells x4)) rfl rfl ts24 (.tmp rfl) rfl (.tmp rfl) rfl rfl (le_b rfl) (congrArg (fun (x : Vec) => (Vec.cells x)) hx4)) rfl ?_
  refine GoT.nil ?_
  refine let_e h fun x5 hx5 h => ?_
  refine Wp.seq ?_
  refine Wp.region ?_
  refine GoT.q rfl (QEx.fldP 0 rfl uT24 rfl ts3 rfl (.tmp rfl) rfl) rfl (lt_b rfl) ?_
  refine GoT.qr rfl rfl (QEx.ldP1 (Vec.cells x4) (iAV x4.X) rfl ag3 (.tmp rfl) rfl) rfl (lt_b rfl) ?_
  refine GoT.q rfl (QEx.fldP 0 rfl uT24 rfl ts3 rfl (.tmp rfl) rfl) rfl (lt_b rfl) ?_
  refine GoT.qr rfl rfl (QEx.ldP1 (Vec.cells x2) (iAV x2.X) rfl ag3 (.tmp rfl) rfl) rfl (lt_b rfl) ?_
  refine GoT.q rfl (QEx.subK rfl (.tmp rfl) (.tmp rfl)) rfl (lt_b rfl) ?_
  refine GoT.q rfl (QEx.fldP 0 rfl uT24 rfl ts3 rfl (.tmp rfl) rfl) rfl (lt_b rfl) ?_
  refine GoT.qr rfl rfl (QEx.ldP1 (Vec.cells x4) (iAV x4.X) rfl ag3 (.tmp rfl) rfl) rfl (lt_b rfl) ?_
  refine GoT.q rfl (QEx.fldP 0 rfl uT24 rfl ts3 rfl (.tmp rfl) rfl) rfl (lt_b rfl) ?_
  refine GoT.qr rfl rfl (QEx.ldP1 (Vec.cells x2) (iAV x2.X) rfl ag3 (.tmp rfl) rfl) rfl (lt_b rfl) ?_
  refine GoT.q rfl (QEx.subK rfl (.tmp rfl) (.tmp rfl)) rfl (lt_b rfl) ?_
  refine GoT.q rfl (QEx.mulK rfl (.tmp rfl) (.tmp rfl)) rfl (lt_b rfl) ?_
  refine GoT.q rfl (QEx.fldP 1 rfl uT24 rfl ts3 rfl (.tmp rfl) rfl) rfl (lt_b rfl) ?_
  refine GoT.qr rfl rfl (QEx.ldP1 (Vec.cells x4) (iAV x4.Y) rfl ag3 (.tmp rfl) rfl) rfl (lt_b rfl) ?_
  refine GoT.q rfl (QEx.fldP 1 rfl uT24 rfl ts3 rfl (.tmp rfl) rfl) rfl (lt_b rfl) ?_
  refine GoT.qr rfl rfl (QEx.ldP1 (Vec.cells x2) (iAV x2.Y) rfl ag3 (.tmp rfl) rfl) rfl (lt_b rfl) ?_
  refine GoT.q rfl (QEx.subK rfl (.tmp rfl) (.tmp rfl)) rfl (lt_b rfl) ?_
  refine GoT.q rfl (QEx.fldP 1 rfl uT24 rfl ts3 rfl (.tmp rfl) rfl) rfl (lt_b rfl) ?_
  refine GoT.qr rfl rfl (QEx.ldP1 (Vec.cells x4) (iAV x4.Y) rfl ag3 (.tmp rfl) rfl) rfl (lt_b rfl) ?_
  refine GoT.q rfl (QEx.fldP 1 rfl uT24 rfl ts3 rfl (.tmp rfl) rfl) rfl (lt_b rfl) ?_
  refine GoT.qr rfl rfl (QEx.ldP1 (Vec.cells x2) (iAV x2.Y) rfl ag3 (.tmp rfl) rfl) rfl (lt_b rfl) ?_
  refine GoT.q rfl (QEx.subK rfl (.tmp rfl) (.tmp rfl)) rfl (lt_b rfl) ?_
  refine GoT.q rfl (QEx.mulK rfl (.tmp rfl) (.tmp rfl)) rfl (lt_b rfl) ?_
  refine GoT.q rfl (QEx.eq (QEx.addK rfl (.tmp rfl) (.tmp rfl)) (congrArg iAV hx5)) rfl (lt_b rfl) ?_
  refine GoT.q rfl (QEx.assign rfl (.tmp rfl)) rfl (lt_b rfl) ?_
  refine GoT.nil ?_
  refine Wp.ret ?_
  cases h
  exact LeafQ.ret [] (by decide) (.cons (.tmp rfl) .nil) rfl
theorem ref10_ClosestPoint_ok {a : Vec} {b : Vec} {p : Vec} {r : Vec × Int} (h : ref10_ClosestPoint a b p = some r) : FnR Tryz.prog 180 [(Vec.av a), (Vec.av b), (Vec.av p)] (.tup [(Vec.av r.1), (iAV r.2)]) := by
  refine FnR.intro' (fn := Tryz.f180) (N := 57) Tryz.func180 rfl rfl (Nat.le_of_ble_eq_true rfl) [3, 4, 5, 6] ?_
  refine Wp.seq ?_
  refine Wp.region ?_
  refine GoT.a rfl (AEx.bx (Z := (Vec.cells a)) rfl (.tmp rfl) rfl rfl rfl rfl) rfl (lt_b rfl) ?_
  refine GoT.a rfl (AEx.bx (Z := (Vec.cells b)) rfl (.tmp rfl) rfl rfl rfl rfl) rfl (lt_b rfl) ?_
  refine GoT.a rfl (AEx.bx (Z := (Vec.cells p)) rfl (.tmp rfl) rfl rfl rfl rfl) rfl (lt_b rfl) ?_
  refine GoT.a rfl (AEx.alZ rfl zt24 rfl rfl) rfl (lt_b rfl) ?_
  refine GoT.q rfl (QEx.as (iAV 0) (QEx.assign rfl .con)) rfl (lt_b rfl) ?_
  refine GoT.nil ?_
  refine let_e h fun r1 hr1 h => ?_
  refine let_e h fun r2 hr2 h => ?_
  refine let_e h fun r3 hr3 h => ?_
  refine let_e h fun x4 hx4 h => ?_
  refine let_e h fun x5 hx5 h => ?_
  refine let_e h fun x6 hx6 h => ?_
  refine Wp.seq ?_
  refine Wp.drawn2 (n0 := 9) [] mixed ?_
  refine GoD.qr rfl rfl (QEx.ldP (Vec.cells a) (Vec.av a) rfl ag24 ts24 (.tmp rfl) (le_b rfl) rfl) rfl (lt_b rfl) ?_
  refine GoD.q rfl (QEx.cal0 (r := (Vec.av r1)) [(Vec.av a)] rfl Tryz.call177 (.cons (.tmp rfl) .nil) (ref10_saturated_ok hr1) rfl rfl) rfl (lt_b rfl) ?_
  refine GoD.qr rfl rfl (QEx.ldP (Vec.cells b) (Vec.av b) rfl ag24 ts24 (.tmp rfl) (le_b rfl) rfl) rfl (lt_b rfl) ?_
  refine GoD.q rfl (QEx.cal0 (r := (Vec.av r2)) [(Vec.av b)] rfl Tryz.call177 (.cons (.tmp rfl) .nil) (ref10_saturated_ok hr2) rfl rfl) rfl (lt_b rfl) ?_
  refine GoD.qr rfl rfl (QEx.ldP (Vec.cells p) (Vec.av p) rfl ag24 ts24 (.tmp rfl) (le_b rfl) rfl) rfl (lt_b rfl) ?_
  refine GoD.q rfl (QEx.cal0 (r := (Vec.av r3)) [(Vec.av p)] rfl Tryz.call177 (.cons (.tmp rfl) .nil) (ref10_saturated_ok hr3) rfl rfl) rfl (lt_b rfl) ?_
  refine GoD.s rfl (Z := (Vec.cells x4)) rfl rfl ts24 (.tmp rfl) rfl (.tmp rfl) rfl rfl (le_b rfl) (congrArg (fun (x : Vec) => (Vec.cells x)) hx4) ?_
  refine GoD.s rfl (Z := (Vec.cells x5)) rfl rfl ts24 (.tmp rfl) rfl (.tmp rfl) rfl rfl (le_b rfl) (congrArg (fun (x : Vec) => (Vec.cells x)) hx5) ?_
  refine GoD.s rfl (Z := (Vec.cells x6)) rfl rfl ts24 (.tmp rfl) rfl (.tmp rfl) rfl rfl (le_b rfl) (congrArg (fun (x : Vec) => (Vec.cells x)) hx6) ?_
  refine GoD.nil ⟨by kernel_rfl, by kernel_rfl, by kernel_rfl, by kernel_rfl, by kernel_rfl, ?_⟩
  refine GoT.nil ?_
  refine let_e h fun x7 hx7 h => ?_
  refine Wp.seq ?_
  refine Wp.region ?_
  refine GoT.q rfl (QEx.fldP 0 rfl uT24 rfl ts3 rfl (.tmp rfl) rfl) rfl (lt_b rfl) ?_
  refine GoT.qr rfl rfl (QEx.ldP1 (Vec.cells x6) (iAV x6.X) rfl ag3 (.tmp rfl) rfl) rfl (lt_b rfl) ?_
  refine GoT.q rfl (QEx.fldP 0 rfl uT24 rfl ts3 rfl (.tmp rfl) rfl) rfl (lt_b rfl) ?_
  refine GoT.qr rfl rfl (QEx.ldP1 (Vec.cells x4) (iAV x4.X) rfl ag3 (.tmp rfl) rfl) rfl (lt_b rfl) ?_
  refine GoT.q rfl (QEx.subK rfl (.tmp rfl) (.tmp rfl)) rfl (lt_b rfl) ?_
  refine GoT.q rfl (QEx.fldP 0 rfl uT24 rfl ts3 rfl (.tmp rfl) rfl) rfl (lt_b rfl) ?_
  refine GoT.qr rfl rfl (QEx.ldP1 (Vec.cells x5) (iAV x5.X) rfl ag3 (.tmp rfl) rfl) rfl (lt_b rfl) ?_
  refine GoT.q rfl (QEx.fldP 0 rfl uT24 rfl ts3 rfl (.tmp rfl) rfl) rfl (lt_b rfl) ?_
  refine GoT.qr rfl rfl (QEx.ldP1 (Vec.cells x4) (iAV x4.X) rfl ag3 (.tmp rfl) rfl) rfl (lt_b rfl) ?_
  refine GoT.q rfl (QEx.subK rfl (.tmp rfl) (.tmp rfl)) rfl (lt_b rfl) ?_
  refine GoT.q rfl (QEx.mulK rfl (.tmp rfl) (.tmp rfl)) rfl (lt_b rfl) ?_
  refine GoT.q rfl (QEx.fldP 1 rfl uT24 rfl ts3 rfl (.tmp rfl) rfl) rfl (lt_b rfl) ?_
  refine GoT.qr rfl rfl (QEx.ldP1 (Vec.cells x6) (iAV x6.Y) rfl ag3 (.tmp rfl) rfl) rfl (lt_b rfl) ?_
  refine GoT.q rfl (QEx.fldP 1 rfl uT24 rfl ts3 rfl (.tmp rfl) rfl) rfl (lt_b rfl) ?_
  refine GoT.qr rfl rfl (QEx.ldP1 (Vec.cells x4) (iAV x4.Y) rfl ag3 (.tmp rfl) rfl) rfl (lt_b rfl) ?_
  refine GoT.q rfl (QEx.subK rfl (.tmp rfl) (.tmp rfl)) rfl (lt_b rfl) ?_
  refine GoT.q rfl (QEx.fldP 1 rfl uT24 rfl ts3 rfl (.tmp rfl) rfl) rfl (lt_b rfl) ?_
  refine GoT.qr rfl rfl (QEx.ldP1 (Vec.cells x5) (iAV x5.Y) rfl ag3 (.tmp rfl) rfl) rfl (lt_b rfl) ?_
  refine GoT.q rfl (QEx.fldP 1 rfl uT24 rfl ts3 rfl (.tmp rfl) rfl) rfl (lt_b rfl) ?_
  refine GoT.qr rfl rfl (QEx.ldP1 (Vec.cells x4) (iAV x4.Y) rfl ag3 (.tmp rfl) rfl) rfl (lt_b rfl) ?_
  refine GoT.q rfl (QEx.subK rfl (.tmp rfl) (.tmp rfl)) rfl (lt_b rfl) ?_
  refine GoT.q rfl (QEx.mulK rfl (.tmp rfl) (.tmp rfl)) rfl (lt_b rfl) ?_
  refine GoT.q rfl (QEx.eq (QEx.addK rfl (.tmp rfl) (.tmp rfl)) (congrArg iAV hx7)) rfl (lt_b rfl) ?_
  refine GoT.q rfl (QEx.assign rfl (.tmp rfl)) rfl (lt_b rfl) ?_
  refine GoT.nil ?_
  refine let_e h fun r8 hr8 h => ?_
  refine bind_e h fun r9 hr9 h => ?_
  refine Wp.seq ?_
  refine Wp.region ?_
  refine GoT.q rfl (QEx.move rfl (.tmp rfl)) rfl (lt_b rfl) ?_
  refine GoT.qr rfl rfl (QEx.ldP (Vec.cells x4) (Vec.av x4) rfl ag24 ts24 (.tmp rfl) (le_b rfl) rfl) rfl (lt_b rfl) ?_
  refine GoT.qr rfl rfl (QEx.ldP (Vec.cells x5) (Vec.av x5) rfl ag24 ts24 (.tmp rfl) (le_b rfl) rfl) rfl (lt_b rfl) ?_
  refine GoT.q rfl (QEx.cal0 (r := (iAV r8)) [(Vec.av x4), (Vec.av x5)] rfl Tryz.call157 (.cons (.tmp rfl) (.cons (.tmp rfl) .nil)) (ref03_DistanceSquared_ok hr8) rfl rfl) rfl (lt_b rfl) ?_
  refine GoT.q rfl (QEx.cal0 (r := (iAV r9)) [(iAV x7), (iAV r8)] rfl Tryz.call179 (.cons (.tmp rfl) (.cons (.tmp rfl) .nil)) (ref01_Ratio_ok hr9) rfl rfl) rfl (lt_b rfl) ?_
  refine GoT.q rfl (QEx.assign rfl (.tmp rfl)) rfl (lt_b rfl) ?_
  refine GoT.nil ?_
  refine Wp.seq ?_
  refine Wp.seq ?_
  refine Wp.region ?_
  refine GoT.q rfl (QEx.move rfl (.tmp rfl)) rfl (lt_b rfl) ?_
  refine GoT.q rfl (QEx.eqlK rfl (.tmp rfl) .con) rfl (lt_b rfl) ?_
  refine GoT.nil ?_
  refine Wp.condS h rfl (fun h => ?_) (fun h => ?_)
  · refine let_e h fun x10 hx10 h => ?_
    refine Wp.seq ?_
    refine Wp.region ?_
    refine GoT.qr rfl rfl (QEx.ldP (Vec.cells x4) (Vec.av x4) rfl ag24 ts24 (.tmp rfl) (le_b rfl) rfl) rfl (lt_b rfl) ?_
    refine GoT.q rfl (QEx.move rfl (.tmp rfl)) rfl (lt_b rfl) ?_
    refine GoT.s rfl (AEx.sto (Z := (Vec.cells x10)) rfl rfl ts24 (.tmp rfl) rfl (.tmp rfl) rfl rfl (le_b rfl) (congrArg (fun (x : Vec) => (Vec.cells x)) hx10)) rfl ?_
    refine GoT.q rfl (QEx.assign rfl (.tmp rfl)) rfl (lt_b rfl) ?_
    refine GoT.nil ?_
    refine Wp.ret ?_
    cases h
    exact LeafQ.ret [] (by decide) (.cons (.agg rfl rfl ag24 ts24) (.cons (.tmp rfl) .nil)) rfl
  · refine Wp.skip ?_
    refine Wp.seq ?_
    refine Wp.seq ?_
    refine Wp.region ?_
    refine GoT.q rfl (QEx.move rfl (.tmp rfl)) rfl (lt_b rfl) ?_
    refine GoT.q rfl (QEx.eqlK rfl (.tmp rfl) .con) rfl (lt_b rfl) ?_
    refine GoT.nil ?_
    refine Wp.condS h rfl (fun h => ?_) (fun h => ?_)
    · refine let_e h fun x11 hx11 h => ?_
      refine Wp.seq ?_
      refine Wp.region ?_
      refine GoT.qr rfl rfl (QEx.ldP (Vec.cells x5) (Vec.av x5) rfl ag24 ts24 (.tmp rfl) (le_b rfl) rfl) rfl (lt_b rfl) ?_
      refine GoT.q rfl (QEx.move rfl (.tmp rfl)) rfl (lt_b rfl) ?_
      refine GoT.s rfl (AEx.sto (Z := (Vec.cells x11)) rfl rfl ts24 (.tmp rfl) rfl (.tmp rfl) rfl rfl (le_b rfl) (congrArg (fun (x : Vec) => (Vec.cells x)) hx11)) rfl ?_
      refine GoT.q rfl (QEx.assign rfl (.tmp rfl)) rfl (lt_b rfl) ?_
      refine GoT.nil ?_
      refine Wp.ret ?_
      cases h
      exact LeafQ.ret [] (by decide) (.cons (.agg rfl rfl ag24 ts24) (.cons (.tmp rfl) .nil)) rfl
    · refine Wp.skip ?_
      refine bind_e h fun r12 hr12 h => ?_
      refine let_e h fun x13 hx13 h => ?_
      refine Wp.seq ?_
      refine Wp.region ?_
      refine GoT.qr rfl rfl (QEx.ldP (Vec.cells x4) (Vec.av x4) rfl ag24 ts24 (.tmp rfl) (le_b rfl) rfl) rfl (lt_b rfl) ?_
      refine GoT.qr rfl rfl (QEx.ldP (Vec.cells x5) (Vec.av x5) rfl ag24 ts24 (.tmp rfl) (le_b rfl) rfl) rfl (lt_b rfl) ?_
      refine GoT.q rfl (QEx.move rfl (.tmp rfl)) rfl (lt_b rfl) ?_
      refine GoT.q rfl (QEx.cal0 (r := (Vec.av r12)) [(Vec.av x4), (Vec.av x5), (iAV r9)] rfl Tryz.call145 (.cons (.tmp rfl) (.cons (.tmp rfl) (.cons (.tmp rfl) .nil))) (ref03_Lerp_ok hr12) rfl rfl) rfl (lt_b rfl) ?_
      refine GoT.q rfl (QEx.move rfl (.tmp rfl)) rfl (lt_b rfl) ?_
      refine GoT.s rfl (AEx.sto (Z := (Vec.cells x13)) rfl rfl ts24 (.tmp rfl) rfl (.tmp rfl) rfl rfl (le_b rfl) (congrArg (fun (x : Vec) => (Vec.cells x)) hx13)) rfl ?_
      refine GoT.q rfl (QEx.assign rfl (.tmp rfl)) rfl (lt_b rfl) ?_
      refine GoT.nil ?_
      refine Wp.ret ?_
      cases h
      exact LeafQ.ret [] (by decide) (.cons (.agg rfl rfl ag24 ts24) (.cons (.tmp rfl) .nil)) rfl
theorem ref10_ClosestPoints_ok {a : Vec} {b : Vec} {c_2 : Vec} {d : Vec} {r : Vec × Vec} (h : ref10_ClosestPoints a b c_2 d = some r) : FnR Tryz.prog 156 [(Vec.av a), (Vec.av b), (Vec.av c_2), (Vec.av d)] (.tup [(Vec.av r.1), (Vec.av r.2)]) := by
  refine FnR.intro' (fn := Tryz.f156) (N := 111) Tryz.func156 rfl rfl (Nat.le_of_ble_eq_true rfl) [4, 5, 6, 7, 8, 9, 12, 13, 14, 15, 17, 19] ?_
  refine Wp.seq ?_
  refine Wp.region ?_
  refine GoT.a rfl (AEx.bx (Z := (Vec.cells a)) rfl (.tmp rfl) rfl rfl rfl rfl) rfl (lt_b rfl) ?_
  refine GoT.a rfl (AEx.bx (Z := (Vec.cells b)) rfl (.tmp rfl) rfl rfl rfl rfl) rfl (lt_b rfl) ?_
  refine GoT.a rfl (AEx.bx (Z := (Vec.cells c_2)) rfl (.tmp rfl) rfl rfl rfl rfl) rfl (lt_b rfl) ?_
  refine GoT.a rfl (AEx.bx (Z := (Vec.cells d)) rfl (.tmp rfl) rfl rfl rfl rfl) rfl (lt_b rfl) ?_
  refine GoT.a rfl (AEx.alZ rfl zt24 rfl rfl) rfl (lt_b rfl) ?_
  refine GoT.a rfl (AEx.alZ rfl zt24 rfl rfl) rfl (lt_b rfl) ?_
  refine GoT.nil ?_
  refine let_e h fun r1 hr1 h => ?_
  refine let_e h fun r2 hr2 h => ?_
  refine let_e h fun r3 hr3 h => ?_
  refine let_e h fun r4 hr4 h => ?_
  refine let_e h fun x5 hx5 h => ?_
  refine let_e h fun x6 hx6 h => ?_
  refine let_e h fun x7 hx7 h => ?_
  refine let_e h fun x8 hx8 h => ?_
  refine Wp.seq ?_
  refine Wp.drawn2 (n0 := 12) [12, 13, 14, 15, 17, 19] mixed ?_
  refine GoD.qr rfl rfl (QEx.ldP (Vec.cells a) (Vec.av a) rfl ag24 ts24 (.tmp rfl) (le_b rfl) rfl) rfl (lt_b rfl) ?_
  refine GoD.q rfl (QEx.cal0 (r := (Vec.av r1)) [(Vec.av a)] rfl Tryz.call177 (.cons (.tmp rfl) .nil) (ref10_saturated_ok hr1) rfl rfl) rfl (lt_b rfl) ?_
  refine GoD.qr rfl rfl (QEx.ldP (Vec.cells b) (Vec.av b) rfl ag24 ts24 (.tmp rfl) (le_b rfl) rfl) rfl (lt_b rfl) ?_
  refine GoD.q rfl (QEx.cal0 (r := (Vec.av r2)) [(Vec.av b)] rfl Tryz.call177 (.cons (.tmp rfl) .nil) (ref10_saturated_ok hr2) rfl rfl) rfl (lt_b rfl) ?_
  refine GoD.qr rfl rfl (QEx.ldP (Vec.cells c_2) (Vec.av c_2) rfl ag24 ts24 (.tmp rfl) (le_b rfl) rfl) rfl (lt_b rfl) ?_
  refine GoD.q rfl (QEx.cal0 (r := (Vec.av r3)) [(Vec.av c_2)] rfl Tryz.call177 (.cons (.tmp rfl) .nil) (ref10_saturated_ok hr3) rfl rfl) rfl (lt_b rfl) ?_
  refine GoD.qr rfl rfl (QEx.ldP (Vec.cells d) (Vec.av d) rfl ag24 ts24 (.tmp rfl) (le_b rfl) rfl) rfl (lt_b rfl) ?_
  refine GoD.q rfl (QEx.cal0 (r := (Vec.av r4)) [(Vec.av d)] rfl Tryz.call177 (.cons (.tmp rfl) .nil) (ref10_saturated_ok hr4) rfl rfl) rfl (lt_b rfl) ?_
  refine GoD.s rfl (Z := (Vec.cells x5)) rfl rfl ts24 (.tmp rfl) rfl (.tmp rfl) rfl rfl (le_b rfl) (congrArg (fun (x : Vec) => (Vec.cells x)) hx5) ?_
  refine GoD.s rfl (Z := (Vec.cells x6)) rfl rfl ts24 (.tmp rfl) rfl (.tmp rfl) rfl rfl (le_b rfl) (congrArg (fun (x : Vec) => (Vec.cells x)) hx6) ?_
  refine GoD.s rfl (Z := (Vec.cells x7)) rfl rfl ts24 (.tmp rfl) rfl (.tmp rfl) rfl rfl (le_b rfl) (congrArg (fun (x : Vec) => (Vec.cells x)) hx7) ?_
  refine GoD.s rfl (Z := (Vec.cells x8)) rfl rfl ts24 (.tmp rfl) rfl (.tmp rfl) rfl rfl (le_b rfl) (congrArg (fun (x : Vec) => (Vec.cells x)) hx8) ?_
  refine GoD.nil ⟨by kernel_rfl, by kernel_rfl, by kernel_rfl, by kernel_rfl, by kernel_rfl, ?_⟩
  refine GoT.nil ?_
  refine Wp.seq ?_
  refine bind_e h fun r9 hr9 h => ?_
  refine Wp.seq ?_
  refine Wp.region ?_
  refine GoT.qr rfl rfl (QEx.ldP (Vec.cells x5) (Vec.av x5) rfl ag24 ts24 (.tmp rfl) (le_b rfl) rfl) rfl (lt_b rfl) ?_
  refine GoT.qr rfl rfl (QEx.ldP (Vec.cells x6) (Vec.av x6) rfl ag24 ts24 (.tmp rfl) (le_b rfl) rfl) rfl (lt_b rfl) ?_
  refine GoT.qr rfl rfl (QEx.ldP (Vec.cells x7) (Vec.av x7) rfl ag24 ts24 (.tmp rfl) (le_b rfl) rfl) rfl (lt_b rfl) ?_
  refine GoT.qr rfl rfl (QEx.ldP (Vec.cells x8) (Vec.av x8) rfl ag24 ts24 (.tmp rfl) (le_b rfl) rfl) rfl (lt_b rfl) ?_
  refine GoT.q rfl (QEx.cal0 (r := (boolAV r9)) [(Vec.av x5), (Vec.av x6), (Vec.av x7), (Vec.av x8)] rfl Tryz.call155 (.cons (.tmp rfl) (.cons (.tmp rfl) (.cons (.tmp rfl) (.cons (.tmp rfl) .nil)))) (ref10_Intersects_ok hr9) rfl rfl) rfl (lt_b rfl) ?_
  refine GoT.nil ?_
  refine Wp.condS h rfl (fun h => ?_) (fun h => ?_)
  · refine let_e h fun r10 hr10 h => ?_
    refine let_e h fun r11 hr11 h => ?_
    refine Wp.seq ?_
    refine Wp.drawn2 (n0 := 10) [12, 13, 14, 15, 17, 19] mixed ?_
    refine GoD.qr rfl rfl (QEx.ldP (Vec.cells x7) (Vec.av x7) rfl ag24 ts24 (.tmp rfl) (le_b rfl) rfl) rfl (lt_b rfl) ?_
    refine GoD.qr rfl rfl (QEx.ldP (Vec.cells x8) (Vec.av x8) rfl ag24 ts24 (.tmp rfl) (le_b rfl) rfl) rfl (lt_b rfl) ?_
    refine GoD.qr rfl rfl (QEx.ldP (Vec.cells x5) (Vec.av x5) rfl ag24 ts24 (.tmp rfl) (le_b rfl) rfl) rfl (lt_b rfl) ?_
    refine GoD.q rfl (QEx.cal0 (r := (iAV r10)) [(Vec.av x7), (Vec.av x8), (Vec.av x5)] rfl Tryz.call178 (.cons (.tmp rfl) (.cons (.tmp rfl) (.cons (.tmp rfl) .nil))) (ref10_absCross_ok hr10) rfl rfl) rfl (lt_b rfl) ?_
    refine GoD.qr rfl rfl (QEx.ldP (Vec.cells x7) (Vec.av x7) rfl ag24 ts24 (.tmp rfl) (le_b rfl) rfl) rfl (lt_b rfl) ?_
    refine GoD.qr rfl rfl (QEx.ldP (Vec.cells x8) (Vec.av x8) rfl ag24 ts24 (.tmp rfl) (le_b rfl) rfl) rfl (lt_b rfl) ?_
    refine GoD.qr rfl rfl (QEx.ldP (Vec.cells x6) (Vec.av x6) rfl ag24 ts24 (.tmp rfl) (le_b rfl) rfl) rfl (lt_b rfl) ?_
    refine GoD.q rfl (QEx.cal0 (r := (iAV r11)) [(Vec.av x7), (Vec.av x8), (Vec.av x6)] rfl Tryz.call178 (.cons (.tmp rfl) (.cons (.tmp rfl) (.cons (.tmp rfl) .nil))) (ref10_absCross_ok hr11) rfl rfl) rfl (lt_b rfl) ?_
    refine GoD.q rfl (QEx.assign rfl (.tmp rfl)) rfl (lt_b rfl) ?_
    refine GoD.q rfl (QEx.assign rfl (.tmp rfl)) rfl (lt_b rfl) ?_
    refine GoD.nil ⟨by kernel_rfl, by kernel_rfl, by kernel_rfl, by kernel_rfl, by kernel_rfl, ?_⟩
    refine GoT.nil ?_
    refine bind_e h fun r12 hr12 h => ?_
    refine bind_e h fun r13 hr13 h => ?_
    refine let_e h fun x14 hx14 h => ?_
    refine Wp.seq ?_
    refine Wp.drawn2 (n0 := 10) [13, 14, 15, 17, 19] mixed ?_
    refine GoD.qr rfl rfl (QEx.ldP (Vec.cells x5) (Vec.av x5) rfl ag24 ts24 (.tmp rfl) (le_b rfl) rfl) rfl (lt_b rfl) ?_
    refine GoD.qr rfl rfl (QEx.ldP (Vec.cells x6) (Vec.av x6) rfl ag24 ts24 (.tmp rfl) (le_b rfl) rfl) rfl (lt_b rfl) ?_
    refine GoD.q rfl (QEx.move rfl (.tmp rfl)) rfl (lt_b rfl) ?_
    refine GoD.q rfl (QEx.move rfl (.tmp rfl)) rfl (lt_b rfl) ?_
    refine GoD.q rfl (QEx.move rfl (.tmp rfl)) rfl (lt_b rfl) ?_
    refine GoD.q rfl (QEx.addK rfl (.tmp rfl) (.tmp rfl)) rfl (lt_b rfl) ?_
    refine GoD.q rfl (QEx.cal0 (r := (iAV r12)) [(iAV r10), (iAV (w64 (r10 + r11)))] rfl Tryz.call179 (.cons (.tmp rfl) (.cons (.tmp rfl) .nil)) (ref01_Ratio_ok hr12) rfl rfl) rfl (lt_b rfl) ?_
    refine GoD.q rfl (QEx.cal0 (r := (Vec.av r13)) [(Vec.av x5), (Vec.av x6), (iAV r12)] rfl Tryz.call145 (.cons (.tmp rfl) (.cons (.tmp rfl) (.cons (.tmp rfl) .nil))) (ref03_Lerp_ok hr13) rfl rfl) rfl (lt_b rfl) ?_
    refine GoD.al rfl rfl zt24 rfl (lt_b rfl) ?_
    refine GoD.s rfl (Z := (Vec.cells x14)) rfl rfl ts24 (.tmp rfl) rfl (.tmp rfl) rfl rfl (le_b rfl) (congrArg (fun (x : Vec) => (Vec.cells x)) hx14) ?_
    refine GoD.nil ⟨by kernel_rfl, by kernel_rfl, by kernel_rfl, by kernel_rfl, by kernel_rfl, ?_⟩
    refine GoT.nil ?_
    refine let_e h fun x15 hx15 h => ?_
    refine let_e h fun x16 hx16 h => ?_
    refine Wp.seq ?_
    refine Wp.drawn2 (n0 := 4) [13, 14, 15, 17, 19] mixed ?_
    refine GoD.qr rfl rfl (QEx.ldP (Vec.cells x14) (Vec.av x14) rfl ag24 ts24 (.tmp rfl) (le_b rfl) rfl) rfl (lt_b rfl) ?_
    refine GoD.qr rfl rfl (QEx.ldP (Vec.cells x14) (Vec.av x14) rfl ag24 ts24 (.tmp rfl) (le_b rfl) rfl) rfl (lt_b rfl) ?_
    refine GoD.s rfl (Z := (Vec.cells x15)) rfl rfl ts24 (.tmp rfl) rfl (.tmp rfl) rfl rfl (le_b rfl) (congrArg (fun (x : Vec) => (Vec.cells x)) hx15) ?_
    refine GoD.s rfl (Z := (Vec.cells x16)) rfl rfl ts24 (.tmp rfl) rfl (.tmp rfl) rfl rfl (le_b rfl) (congrArg (fun (x : Vec) => (Vec.cells x)) hx16) ?_
    refine GoD.nil ⟨by kernel_rfl, by kernel_rfl, by kernel_rfl, by kernel_rfl, by kernel_rfl, ?_⟩
    refine GoT.nil ?_
    refine Wp.ret ?_
    cases h
    exact LeafQ.ret [] (by decide) (.cons (.agg rfl rfl ag24 ts24) (.cons (.agg rfl rfl ag24 ts24) .nil)) rfl
  · refine Wp.skip ?_
    refine let_e h fun x17 hx17 h => ?_
    refine let_e h fun x18 hx18 h => ?_
    refine Wp.seq ?_
    refine Wp.drawn2 (n0 := 6) [12, 15, 17, 19] mixed ?_
    refine GoD.qr rfl rfl (QEx.ldP (Vec.cells x5) (Vec.av x5) rfl ag24 ts24 (.tmp rfl) (le_b rfl) rfl) rfl (lt_b rfl) ?_
    refine GoD.qr rfl rfl (QEx.ldP (Vec.cells x7) (Vec.av x7) rfl ag24 ts24 (.tmp rfl) (le_b rfl) rfl) rfl (lt_b rfl) ?_
    refine GoD.al rfl rfl zt24 rfl (lt_b rfl) ?_
    refine GoD.al rfl rfl zt24 rfl (lt_b rfl) ?_
    refine GoD.s rfl (Z := (Vec.cells x17)) rfl rfl ts24 (.tmp rfl) rfl (.tmp rfl) rfl rfl (le_b rfl) (congrArg (fun (x : Vec) => (Vec.cells x)) hx17) ?_
    refine GoD.s rfl (Z := (Vec.cells x18)) rfl rfl ts24 (.tmp rfl) rfl (.tmp rfl) rfl rfl (le_b rfl) (congrArg (fun (x : Vec) => (Vec.cells x)) hx18) ?_
    refine GoD.nil ⟨by kernel_rfl, by kernel_rfl, by kernel_rfl, by kernel_rfl, by kernel_rfl, ?_⟩
    refine GoT.nil ?_
    refine bind_e h fun r19 hr19 h => ?_
    refine let_e h fun x20 hx20 h => ?_
    refine Wp.seq ?_
    refine Wp.region ?_
    refine GoT.qr rfl rfl (QEx.ldP (Vec.cells x7) (Vec.av x7) rfl ag24 ts24 (.tmp rfl) (le_b rfl) rfl) rfl (lt_b rfl) ?_
    refine GoT.qr rfl rfl (QEx.ldP (Vec.cells x8) (Vec.av x8) rfl ag24 ts24 (.tmp rfl) (le_b rfl) rfl) rfl (lt_b rfl) ?_
    refine GoT.qr rfl rfl (QEx.ldP (Vec.cells x5) (Vec.av x5) rfl ag24 ts24 (.tmp rfl) (le_b rfl) rfl) rfl (lt_b rfl) ?_
    refine GoT.q rfl (QEx.cal0 (r := (.tup [(Vec.av r19.1), (iAV r19.2)])) [(Vec.av x7), (Vec.av x8), (Vec.av x5)] rfl Tryz.call180 (.cons (.tmp rfl) (.cons (.tmp rfl) (.cons (.tmp rfl) .nil))) (ref10_ClosestPoint_ok hr19) rfl rfl) rfl (lt_b rfl) ?_
    refine GoT.q rfl (QEx.move rfl (.tmp rfl)) rfl (lt_b rfl) ?_
    refine GoT.q rfl (QEx.extract rfl (.tmp rfl) rfl) rfl (lt_b rfl) ?_
    refine GoT.q rfl (QEx.extract rfl (.tmp rfl) rfl) rfl (lt_b rfl) ?_
    refine GoT.s rfl (AEx.sto (Z := (Vec.cells x20)) rfl rfl ts24 (.tmp rfl) rfl (.tmp rfl) rfl rfl (le_b rfl) (congrArg (fun (x : Vec) => (Vec.cells x)) hx20)) rfl ?_
    refine GoT.nil ?_
    refine bind_e h fun r21 hr21 h => ?_
    refine let_e h fun x22 hx22 h => ?_
    refine Wp.seq ?_
    refine Wp.region ?_
    refine GoT.qr rfl rfl (QEx.ldP (Vec.cells x7) (Vec.av x7) rfl ag24 ts24 (.tmp rfl) (le_b rfl) rfl) rfl (lt_b rfl) ?_
    refine GoT.qr rfl rfl (QEx.ldP (Vec.cells x8) (Vec.av x8) rfl ag24 ts24 (.tmp rfl) (le_b rfl) rfl) rfl (lt_b rfl) ?_
    refine GoT.qr rfl rfl (QEx.ldP (Vec.cells x6) (Vec.av x6) rfl ag24 ts24 (.tmp rfl) (le_b rfl) rfl) rfl (lt_b rfl) ?_
    refine GoT.q rfl (QEx.cal0 (r := (.tup [(Vec.av r21.1), (iAV r21.2)])) [(Vec.av x7), (Vec.av x8), (Vec.av x6)] rfl Tryz.call180 (.cons (.tmp rfl) (.cons (.tmp rfl) (.cons (.tmp rfl) .nil))) (ref10_ClosestPoint_ok hr21) rfl rfl) rfl (lt_b rfl) ?_
    refine GoT.q rfl (QEx.move rfl (.tmp rfl)) rfl (lt_b rfl) ?_
    refine GoT.q rfl (QEx.extract rfl (.tmp rfl) rfl) rfl (lt_b rfl) ?_
    refine GoT.q rfl (QEx.extract rfl (.tmp rfl) rfl) rfl (lt_b rfl) ?_
    refine GoT.a rfl (AEx.alZ rfl zt24 rfl rfl) rfl (lt_b rfl) ?_
    refine GoT.s rfl (AEx.sto (Z := (Vec.cells x22)) rfl rfl ts24 (.tmp rfl) rfl (.tmp rfl) rfl rfl (le_b rfl) (congrArg (fun (x : Vec) => (Vec.cells x)) hx22)) rfl ?_
    refine GoT.q rfl (QEx.assign rfl (.tmp rfl)) rfl (lt_b rfl) ?_
    refine GoT.nil ?_
    refine bind_e h fun r23 hr23 h => ?_
    refine let_e h fun x24 hx24 h => ?_
    refine Wp.seq ?_
    refine Wp.region ?_
    refine GoT.qr rfl rfl (QEx.ldP (Vec.cells x5) (Vec.av x5) rfl ag24 ts24 (.tmp rfl) (le_b rfl) rfl) rfl (lt_b rfl) ?_
    refine GoT.qr rfl rfl (QEx.ldP (Vec.cells x6) (Vec.av x6) rfl ag24 ts24 (.tmp rfl) (le_b rfl) rfl) rfl (lt_b rfl) ?_
    refine GoT.qr rfl rfl (QEx.ldP (Vec.cells x7) (Vec.av x7) rfl ag24 ts24 (.tmp rfl) (le_b rfl) rfl) rfl (lt_b rfl) ?_
    refine GoT.q rfl (QEx.cal0 (r := (.tup [(Vec.av r23.1), (iAV r23.2)])) [(Vec.av x5), (Vec.av x6), (Vec.av x7)] rfl Tryz.call180 (.cons (.tmp rfl) (.cons (.tmp rfl) (.cons (.tmp rfl) .nil))) (ref10_ClosestPoint_ok hr23) rfl rfl) rfl (lt_b rfl) ?_
    refine GoT.q rfl (QEx.move rfl (.tmp rfl)) rfl (lt_b rfl) ?_
    refine GoT.q rfl (QEx.extract rfl (.tmp rfl) rfl) rfl (lt_b rfl) ?_
    refine GoT.q rfl (QEx.extract rfl (.tmp rfl) rfl) rfl (lt_b rfl) ?_
    refine GoT.a rfl (AEx.alZ rfl zt24 rfl rfl) rfl (lt_b rfl) ?_
    refine GoT.s rfl (AEx.sto (Z := (Vec.cells x24)) rfl rfl ts24 (.tmp rfl) rfl (.tmp rfl) rfl rfl (le_b rfl) (congrArg (fun (x : Vec) => (Vec.cells x)) hx24)) rfl ?_
    refine GoT.q rfl (QEx.assign rfl (.tmp rfl)) rfl (lt_b rfl) ?_
    refine GoT.nil ?_
    refine bind_e h fun r25 hr25 h => ?_
    refine let_e h fun x26 hx26 h => ?_
    refine Wp.seq ?_
    refine Wp.region ?_
    refine GoT.qr rfl rfl (QEx.ldP (Vec.cells x5) (Vec.av x5) rfl ag24 ts24 (.tmp rfl) (le_b rfl) rfl) rfl (lt_b rfl) ?_
    refine GoT.qr rfl rfl (QEx.ldP (Vec.cells x6) (Vec.av x6) rfl ag24 ts24 (.tmp rfl) (le_b rfl) rfl) rfl (lt_b rfl) ?_
    refine GoT.qr rfl rfl (QEx.ldP (Vec.cells x8) (Vec.av x8) rfl ag24 ts24 (.tmp rfl) (le_b rfl) rfl) rfl (lt_b rfl) ?_
    refine GoT.q rfl (QEx.cal0 (r := (.tup [(Vec.av r25.1), (iAV r25.2)])) [(Vec.av x5), (Vec.av x6), (Vec.av x8)] rfl Tryz.call180 (.cons (.tmp rfl) (.cons (.tmp rfl) (.cons (.tmp rfl) .nil))) (ref10_ClosestPoint_ok hr25) rfl rfl) rfl (lt_b rfl) ?_
    refine GoT.q rfl (QEx.move rfl (.tmp rfl)) rfl (lt_b rfl) ?_
    refine GoT.q rfl (QEx.extract rfl (.tmp rfl) rfl) rfl (lt_b rfl) ?_
    refine GoT.q rfl (QEx.extract rfl (.tmp rfl) rfl) rfl (lt_b rfl) ?_
    refine GoT.a rfl (AEx.alZ rfl zt24 rfl rfl) rfl (lt_b rfl) ?_
    refine GoT.s rfl (AEx.sto (Z := (Vec.cells x26)) rfl rfl ts24 (.tmp rfl) rfl (.tmp rfl) rfl rfl (le_b rfl) (congrArg (fun (x : Vec) => (Vec.cells x)) hx26)) rfl ?_
    refine GoT.q rfl (QEx.assign rfl (.tmp rfl)) rfl (lt_b rfl) ?_
    refine GoT.nil ?_
    refine Wp.join2 (fun v27 v28 => ⟨[(6, (.ptr 6 0)), (7, (.ptr 7 0)), (8, (.ptr 8 0)), (9, (.ptr 9 0)), (13, (.ptr 13 0)), (14, (.ptr 14 0)), (17, (.ptr 17 0)), (19, (.ptr 19 0))], [(6, .cells (Vec.cells x7)), (7, .cells (Vec.cells x8)), (8, .cells (Vec.cells Vec.zero)), (9, .cells (Vec.cells Vec.zero)), (13, .cells (Vec.cells v27)), (14, .cells (Vec.cells v28)), (17, .cells (Vec.cells x24)), (19, .cells (Vec.cells x26))], [4, 5, 12, 15]⟩) (fun v27 v28 => (ref10_ClosestPoints_j2 x7 x8 x24 x26) v27 v28 = some r) ?_ ?_
    · intro v27 v28 h
      refine Wp.join2 (fun v33 v34 => ⟨[(7, (.ptr 7 0)), (8, (.ptr 8 0)), (9, (.ptr 9 0)), (13, (.ptr 13 0)), (14, (.ptr 14 0)), (19, (.ptr 19 0))], [(7, .cells (Vec.cells x8)), (8, .cells (Vec.cells Vec.zero)), (9, .cells (Vec.cells Vec.zero)), (13, .cells (Vec.cells v33)), (14, .cells (Vec.cells v34)), (19, .cells (Vec.cells x26))], [4, 5, 6, 12, 15, 17]⟩) (fun v33 v34 => (ref10_ClosestPoints_j1 x8 x26) v33 v34 = some r) ?_ ?_
      · intro v33 v34 h
        refine Wp.seq ?_
        refine let_e h fun r39 hr39 h => ?_
        refine let_e h fun r40 hr40 h => ?_
        refine Wp.seq ?_
        refine Wp.drawn2 (n0 := 7) [4, 5, 6, 12, 15, 17] mixed ?_
        refine GoD.qr rfl rfl (QEx.ldP (Vec.cells x26) (Vec.av x26) rfl ag24 ts24 (.tmp rfl) (le_b rfl) rfl) rfl (lt_b rfl) ?_
        refine GoD.qr rfl rfl (QEx.ldP (Vec.cells x8) (Vec.av x8) rfl ag24 ts24 (.tmp rfl) (le_b rfl) rfl) rfl (lt_b rfl) ?_
        refine GoD.q rfl (QEx.cal0 (r := (iAV r39)) [(Vec.av x26), (Vec.av x8)] rfl Tryz.call157 (.cons (.tmp rfl) (.cons (.tmp rfl) .nil)) (ref03_DistanceSquared_ok hr39) rfl rfl) rfl (lt_b rfl) ?_
        refine GoD.qr rfl rfl (QEx.ldP (Vec.cells v33) (Vec.av v33) rfl ag24 ts24 (.tmp rfl) (le_b rfl) rfl) rfl (lt_b rfl) ?_
        refine GoD.qr rfl rfl (QEx.ldP (Vec.cells v34) (Vec.av v34) rfl ag24 ts24 (.tmp rfl) (le_b rfl) rfl) rfl (lt_b rfl) ?_
        refine GoD.q rfl (QEx.cal0 (r := (iAV r40)) [(Vec.av v33), (Vec.av v34)] rfl Tryz.call157 (.cons (.tmp rfl) (.cons (.tmp rfl) .nil)) (ref03_DistanceSquared_ok hr40) rfl rfl) rfl (lt_b rfl) ?_
        refine GoD.q rfl (QEx.lssK rfl (.tmp rfl) (.tmp rfl)) rfl (lt_b rfl) ?_
        refine GoD.nil ⟨by kernel_rfl, by kernel_rfl, by kernel_rfl, by kernel_rfl, by kernel_rfl, ?_⟩
        refine GoT.nil ?_
        refine Wp.condS h rfl (fun h => ?_) (fun h => ?_)
        · refine let_e h fun x41 hx41 h => ?_
          refine let_e h fun x42 hx42 h => ?_
          refine Wp.drawn2 (n0 := 4) [4, 5, 6, 12, 15, 17] mixed ?_
          refine GoD.qr rfl rfl (QEx.ldP (Vec.cells x26) (Vec.av x26) rfl ag24 ts24 (.tmp rfl) (le_b rfl) rfl) rfl (lt_b rfl) ?_
          refine GoD.qr rfl rfl (QEx.ldP (Vec.cells x8) (Vec.av x8) rfl ag24 ts24 (.tmp rfl) (le_b rfl) rfl) rfl (lt_b rfl) ?_
          refine GoD.s rfl (Z := (Vec.cells x41)) rfl rfl ts24 (.tmp rfl) rfl (.tmp rfl) rfl rfl (le_b rfl) (congrArg (fun (x : Vec) => (Vec.cells x)) hx41) ?_
          refine GoD.s rfl (Z := (Vec.cells x42)) rfl rfl ts24 (.tmp rfl) rfl (.tmp rfl) rfl rfl (le_b rfl) (congrArg (fun (x : Vec) => (Vec.cells x)) hx42) ?_
          refine GoD.nil ⟨by kernel_rfl, by kernel_rfl, by kernel_rfl, by kernel_rfl, by kernel_rfl, ?_⟩
          refine GoT.nil ?_
          refine let_e h fun x43 hx43 h => ?_
          refine let_e h fun x44 hx44 h => ?_
          refine Wp.seq ?_
          refine Wp.drawn2 (n0 := 4) [4, 5, 6, 12, 15, 17] mixed ?_
          refine GoD.qr rfl rfl (QEx.ldP (Vec.cells x41) (Vec.av x41) rfl ag24 ts24 (.tmp rfl) (le_b rfl) rfl) rfl (lt_b rfl) ?_
          refine GoD.qr rfl rfl (QEx.ldP (Vec.cells x42) (Vec.av x42) rfl ag24 ts24 (.tmp rfl) (le_b rfl) rfl) rfl (lt_b rfl) ?_
          refine GoD.s rfl (Z := (Vec.cells x43)) rfl rfl ts24 (.tmp rfl) rfl (.tmp rfl) rfl rfl (le_b rfl) (congrArg (fun (x : Vec) => (Vec.cells x)) hx43) ?_
          refine GoD.s rfl (Z := (Vec.cells x44)) rfl rfl ts24 (.tmp rfl) rfl (.tmp rfl) rfl rfl (le_b rfl) (congrArg (fun (x : Vec) => (Vec.cells x)) hx44) ?_
          refine GoD.nil ⟨by kernel_rfl, by kernel_rfl, by kernel_rfl, by kernel_rfl, by kernel_rfl, ?_⟩
          refine GoT.nil ?_
          refine Wp.ret ?_
          cases h
          exact LeafQ.ret [] (by decide) (.cons (.agg rfl rfl ag24 ts24) (.cons (.agg rfl rfl ag24 ts24) .nil)) rfl
        · refine Wp.skip ?_
          refine let_e h fun x45 hx45 h => ?_
          refine let_e h fun x46 hx46 h => ?_
          refine Wp.seq ?_
          refine Wp.drawn2 (n0 := 4) [4, 5, 6, 12, 15, 17] mixed ?_
          refine GoD.qr rfl rfl (QEx.ldP (Vec.cells v33) (Vec.av v33) rfl ag24 ts24 (.tmp rfl) (le_b rfl) rfl) rfl (lt_b rfl) ?_
          refine GoD.qr rfl rfl (QEx.ldP (Vec.cells v34) (Vec.av v34) rfl ag24 ts24 (.tmp rfl) (le_b rfl) rfl) rfl (lt_b rfl) ?_
          refine GoD.s rfl (Z := (Vec.cells x45)) rfl rfl ts24 (.tmp rfl) rfl (.tmp rfl) rfl rfl (le_b rfl) (congrArg (fun (x : Vec) => (Vec.cells x)) hx45) ?_
          refine GoD.s rfl (Z := (Vec.cells x46)) rfl rfl ts24 (.tmp rfl) rfl (.tmp rfl) rfl rfl (le_b rfl) (congrArg (fun (x : Vec) => (Vec.cells x)) hx46) ?_
          refine GoD.nil ⟨by kernel_rfl, by kernel_rfl, by kernel_rfl, by kernel_rfl, by kernel_rfl, ?_⟩
          refine GoT.nil ?_
          refine Wp.ret ?_
          cases h
          exact LeafQ.ret [] (by decide) (.cons (.agg rfl rfl ag24 ts24) (.cons (.agg rfl rfl ag24 ts24) .nil)) rfl
      · refine let_e h fun r35 hr35 h => ?_
        refine let_e h fun r36 hr36 h => ?_
        refine Wp.seq ?_
        refine Wp.drawn2 (n0 := 7) [4, 5, 12, 15] mixed ?_
        refine GoD.qr rfl rfl (QEx.ldP (Vec.cells x24) (Vec.av x24) rfl ag24 ts24 (.tmp rfl) (le_b rfl) rfl) rfl (lt_b rfl) ?_
        refine GoD.qr rfl rfl (QEx.ldP (Vec.cells x7) (Vec.av x7) rfl ag24 ts24 (.tmp rfl) (le_b rfl) rfl) rfl (lt_b rfl) ?_
        refine GoD.q rfl (QEx.cal0 (r := (iAV r35)) [(Vec.av x24), (Vec.av x7)] rfl Tryz.call157 (.cons (.tmp rfl) (.cons (.tmp rfl) .nil)) (ref03_DistanceSquared_ok hr35) rfl rfl) rfl (lt_b rfl) ?_
        refine GoD.qr rfl rfl (QEx.ldP (Vec.cells v27) (Vec.av v27) rfl ag24 ts24 (.tmp rfl) (le_b rfl) rfl) rfl (lt_b rfl) ?_
        refine GoD.qr rfl rfl (QEx.ldP (Vec.cells v28) (Vec.av v28) rfl ag24 ts24 (.tmp rfl) (le_b rfl) rfl) rfl (lt_b rfl) ?_
        refine GoD.q rfl (QEx.cal0 (r := (iAV r36)) [(Vec.av v27), (Vec.av v28)] rfl Tryz.call157 (.cons (.tmp rfl) (.cons (.tmp rfl) .nil)) (ref03_DistanceSquared_ok hr36) rfl rfl) rfl (lt_b rfl) ?_
        refine GoD.q rfl (QEx.lssK rfl (.tmp rfl) (.tmp rfl)) rfl (lt_b rfl) ?_
        refine GoD.nil ⟨by kernel_rfl, by kernel_rfl, by kernel_rfl, by kernel_rfl, by kernel_rfl, ?_⟩
        refine GoT.nil ?_
        refine Wp.condS h rfl (fun h => ?_) (fun h => ?_)
        · refine let_e h fun x37 hx37 h => ?_
          refine let_e h fun x38 hx38 h => ?_
          refine Wp.drawn2 (n0 := 4) [4, 5, 12, 15] mixed ?_
          refine GoD.qr rfl rfl (QEx.ldP (Vec.cells x24) (Vec.av x24) rfl ag24 ts24 (.tmp rfl) (le_b rfl) rfl) rfl (lt_b rfl) ?_
          refine GoD.qr rfl rfl (QEx.ldP (Vec.cells x7) (Vec.av x7) rfl ag24 ts24 (.tmp rfl) (le_b rfl) rfl) rfl (lt_b rfl) ?_
          refine GoD.s rfl (Z := (Vec.cells x37)) rfl rfl ts24 (.tmp rfl) rfl (.tmp rfl) rfl rfl (le_b rfl) (congrArg (fun (x : Vec) => (Vec.cells x)) hx37) ?_
          refine GoD.s rfl (Z := (Vec.cells x38)) rfl rfl ts24 (.tmp rfl) rfl (.tmp rfl) rfl rfl (le_b rfl) (congrArg (fun (x : Vec) => (Vec.cells x)) hx38) ?_
          refine GoD.nil ⟨by kernel_rfl, by kernel_rfl, by kernel_rfl, by kernel_rfl, by kernel_rfl, ?_⟩
          refine GoT.nil ?_
          exact Joined2.mk x37 x38 [6, 17] [] h (LS.to.mk (.r rfl rfl (.r rfl rfl (.r rfl rfl (.r rfl rfl (.r rfl rfl (.r rfl rfl .n)))))) (.b rfl rfl rfl (.b rfl rfl rfl (.b rfl rfl rfl (.b rfl rfl rfl (.b rfl rfl rfl (.b rfl rfl rfl .n)))))) rfl)
        · refine Wp.skip ?_
          exact Joined2.mk v27 v28 [6, 17] [] h (LS.to.mk (.r rfl rfl (.r rfl rfl (.r rfl rfl (.r rfl rfl (.r rfl rfl (.r rfl rfl .n)))))) (.b rfl rfl rfl (.b rfl rfl rfl (.b rfl rfl rfl (.b rfl rfl rfl (.b rfl rfl rfl (.b rfl rfl rfl .n)))))) rfl)
    · refine let_e h fun r29 hr29 h => ?_
      refine let_e h fun r30 hr30 h => ?_
      refine Wp.seq ?_
      refine Wp.drawn2 (n0 := 7) [12] mixed ?_
      refine GoD.qr rfl rfl (QEx.ldP (Vec.cells x6) (Vec.av x6) rfl ag24 ts24 (.tmp rfl) (le_b rfl) rfl) rfl (lt_b rfl) ?_
      refine GoD.qr rfl rfl (QEx.ldP (Vec.cells x22) (Vec.av x22) rfl ag24 ts24 (.tmp rfl) (le_b rfl) rfl) rfl (lt_b rfl) ?_
      refine GoD.q rfl (QEx.cal0 (r := (iAV r29)) [(Vec.av x6), (Vec.av x22)] rfl Tryz.call157 (.cons (.tmp rfl) (.cons (.tmp rfl) .nil)) (ref03_DistanceSquared_ok hr29) rfl rfl) rfl (lt_b rfl) ?_
      refine GoD.qr rfl rfl (QEx.ldP (Vec.cells x17) (Vec.av x17) rfl ag24 ts24 (.tmp rfl) (le_b rfl) rfl) rfl (lt_b rfl) ?_
      refine GoD.qr rfl rfl (QEx.ldP (Vec.cells x20) (Vec.av x20) rfl ag24 ts24 (.tmp rfl) (le_b rfl) rfl) rfl (lt_b rfl) ?_
      refine GoD.q rfl (QEx.cal0 (r := (iAV r30)) [(Vec.av x17), (Vec.av x20)] rfl Tryz.call157 (.cons (.tmp rfl) (.cons (.tmp rfl) .nil)) (ref03_DistanceSquared_ok hr30) rfl rfl) rfl (lt_b rfl) ?_
      refine GoD.q rfl (QEx.lssK rfl (.tmp rfl) (.tmp rfl)) rfl (lt_b rfl) ?_
      refine GoD.nil ⟨by kernel_rfl, by kernel_rfl, by kernel_rfl, by kernel_rfl, by kernel_rfl, ?_⟩
      refine GoT.nil ?_
      refine Wp.condS h rfl (fun h => ?_) (fun h => ?_)
      · refine let_e h fun x31 hx31 h => ?_
        refine let_e h fun x32 hx32 h => ?_
        refine Wp.drawn2 (n0 := 4) [12] mixed ?_
        refine GoD.qr rfl rfl (QEx.ldP (Vec.cells x6) (Vec.av x6) rfl ag24 ts24 (.tmp rfl) (le_b rfl) rfl) rfl (lt_b rfl) ?_
        refine GoD.qr rfl rfl (QEx.ldP (Vec.cells x22) (Vec.av x22) rfl ag24 ts24 (.tmp rfl) (le_b rfl) rfl) rfl (lt_b rfl) ?_
        refine GoD.s rfl (Z := (Vec.cells x31)) rfl rfl ts24 (.tmp rfl) rfl (.tmp rfl) rfl rfl (le_b rfl) (congrArg (fun (x : Vec) => (Vec.cells x)) hx31) ?_
        refine GoD.s rfl (Z := (Vec.cells x32)) rfl rfl ts24 (.tmp rfl) rfl (.tmp rfl) rfl rfl (le_b rfl) (congrArg (fun (x : Vec) => (Vec.cells x)) hx32) ?_
        refine GoD.nil ⟨by kernel_rfl, by kernel_rfl, by kernel_rfl, by kernel_rfl, by kernel_rfl, ?_⟩
        refine GoT.nil ?_
        exact Joined2.mk x31 x32 [4, 5, 15] [] h (LS.to.mk (.r rfl rfl (.r rfl rfl (.r rfl rfl (.r rfl rfl (.r rfl rfl (.r rfl rfl (.r rfl rfl (.r rfl rfl .n)))))))) (.b rfl rfl rfl (.b rfl rfl rfl (.b rfl rfl rfl (.b rfl rfl rfl (.b rfl rfl rfl (.b rfl rfl rfl (.b rfl rfl rfl (.b rfl rfl rfl .n)))))))) rfl)
      · refine Wp.skip ?_
        exact Joined2.mk x17 x20 [4, 5, 15] [] h (LS.to.mk (.r rfl rfl (.r rfl rfl (.r rfl rfl (.r rfl rfl (.r rfl rfl (.r rfl rfl (.r rfl rfl (.r rfl rfl .n)))))))) (.b rfl rfl rfl (.b rfl rfl rfl (.b rfl rfl rfl (.b rfl rfl rfl (.b rfl rfl rfl (.b rfl rfl rfl (.b rfl rfl rfl (.b rfl rfl rfl .n)))))))) rfl)
theorem ref10_Distance_ok {a : Vec} {b : Vec} {c_2 : Vec} {d : Vec} {r : Int} (h : ref10_Distance a b c_2 d = some r) : FnR Tryz.prog 114 [(Vec.av a), (Vec.av b), (Vec.av c_2), (Vec.av d)] (iAV r) := by
  refine FnR.intro' (fn := Tryz.f114) (N := 29) Tryz.func114 rfl rfl (Nat.le_of_ble_eq_true rfl) [4, 5, 6, 7, 9, 10] ?_
  refine Wp.seq ?_
  refine Wp.region ?_
  refine GoT.a rfl (AEx.bx (Z := (Vec.cells a)) rfl (.tmp rfl) rfl rfl rfl rfl) rfl (lt_b rfl) ?_
  refine GoT.a rfl (AEx.bx (Z := (Vec.cells b)) rfl (.tmp rfl) rfl rfl rfl rfl) rfl (lt_b rfl) ?_
  refine GoT.a rfl (AEx.bx (Z := (Vec.cells c_2)) rfl (.tmp rfl) rfl rfl rfl rfl) rfl (lt_b rfl) ?_
  refine GoT.a rfl (AEx.bx (Z := (Vec.cells d)) rfl (.tmp rfl) rfl rfl rfl rfl) rfl (lt_b rfl) ?_
  refine GoT.q rfl (QEx.as (iAV 0) (QEx.assign rfl .con)) rfl (lt_b rfl) ?_
  refine GoT.nil ?_
  refine Wp.seq ?_
  refine bind_e h fun r1 hr1 h => ?_
  refine Wp.seq ?_
  refine Wp.region ?_
  refine GoT.qr rfl rfl (QEx.ldP (Vec.cells a) (Vec.av a) rfl ag24 ts24 (.tmp rfl) (le_b rfl) rfl) rfl (lt_b rfl) ?_
  refine GoT.qr rfl rfl (QEx.ldP (Vec.cells b) (Vec.av b) rfl ag24 ts24 (.tmp rfl) (le_b rfl) rfl) rfl (lt_b rfl) ?_
  refine GoT.qr rfl rfl (QEx.ldP (Vec.cells c_2) (Vec.av c_2) rfl ag24 ts24 (.tmp rfl) (le_b rfl) rfl) rfl (lt_b rfl) ?_
  refine GoT.qr rfl rfl (QEx.ldP (Vec.cells d) (Vec.av d) rfl ag24 ts24 (.tmp rfl) (le_b rfl) rfl) rfl (lt_b rfl) ?_
  refine GoT.q rfl (QEx.cal0 (r := (boolAV r1)) [(Vec.av a), (Vec.av b), (Vec.av c_2), (Vec.av d)] rfl Tryz.call155 (.cons (.tmp rfl) (.cons (.tmp rfl) (.cons (.tmp rfl) (.cons (.tmp rfl) .nil)))) (ref10_Intersects_ok hr1) rfl rfl) rfl (lt_b rfl) ?_
  refine GoT.nil ?_
  refine Wp.condS h rfl (fun h => ?_) (fun h => ?_)
  · refine Wp.seq ?_
    refine Wp.region ?_
    refine GoT.q rfl (QEx.as (iAV 0) (QEx.assign rfl .con)) rfl (lt_b rfl) ?_
    refine GoT.nil ?_
    refine Wp.ret ?_
    cases h
    exact LeafQ.ret [] (by decide) (.cons (.tmp rfl) .nil) rfl
  · refine Wp.skip ?_
    refine bind_e h fun r2 hr2 h => ?_
    refine let_e h fun x3 hx3 h => ?_
    refine let_e h fun x4 hx4 h => ?_
    refine Wp.seq ?_
    refine Wp.region ?_
    refine GoT.qr rfl rfl (QEx.ldP (Vec.cells a) (Vec.av a) rfl ag24 ts24 (.tmp rfl) (le_b rfl) rfl) rfl (lt_b rfl) ?_
    refine GoT.qr rfl rfl (QEx.ldP (Vec.cells b) (Vec.av b) rfl ag24 ts24 (.tmp rfl) (le_b rfl) rfl) rfl (lt_b rfl) ?_
    refine GoT.qr rfl rfl (QEx.ldP (Vec.cells c_2) (Vec.av c_2) rfl ag24 ts24 (.tmp rfl) (le_b rfl) rfl) rfl (lt_b rfl) ?_
    refine GoT.qr rfl rfl (QEx.ldP (Vec.cells d) (Vec.av d) rfl ag24 ts24 (.tmp rfl) (le_b rfl) rfl) rfl (lt_b rfl) ?_
    refine GoT.q rfl (QEx.cal0 (r := (.tup [(Vec.av r2.1), (Vec.av r2.2)])) [(Vec.av a), (Vec.av b), (Vec.av c_2), (Vec.av d)] rfl Tryz.call156 (.cons (.tmp rfl) (.cons (.tmp rfl) (.cons (.tmp rfl) (.cons (.tmp rfl) .nil)))) (ref10_ClosestPoints_ok hr2) rfl rfl) rfl (lt_b rfl) ?_
    refine GoT.q rfl (QEx.move rfl (.tmp rfl)) rfl (lt_b rfl) ?_
    refine GoT.q rfl (QEx.extract rfl (.tmp rfl) rfl) rfl (lt_b rfl) ?_
    refine GoT.q rfl (QEx.extract rfl (.tmp rfl) rfl) rfl (lt_b rfl) ?_
    refine GoT.a rfl (AEx.alZ rfl zt24 rfl rfl) rfl (lt_b rfl) ?_
    refine GoT.a rfl (AEx.alZ rfl zt24 rfl rfl) rfl (lt_b rfl) ?_
    refine GoT.s rfl (AEx.sto (Z := (Vec.cells x3)) rfl rfl ts24 (.tmp rfl) rfl (.tmp rfl) rfl rfl (le_b rfl) (congrArg (fun (x : Vec) => (Vec.cells x)) hx3)) rfl ?_
    refine GoT.s rfl (AEx.sto (Z := (Vec.cells x4)) rfl rfl ts24 (.tmp rfl) rfl (.tmp rfl) rfl rfl (le_b rfl) (congrArg (fun (x : Vec) => (Vec.cells x)) hx4)) rfl ?_
    refine GoT.nil ?_
    refine let_e h fun r5 hr5 h => ?_
    refine bind_e h fun r6 hr6 h => ?_
    refine let_e h fun r7 hr7 h => ?_
    refine Wp.seq ?_
    refine Wp.region ?_
    refine GoT.qr rfl rfl (QEx.ldP (Vec.cells x3) (Vec.av x3) rfl ag24 ts24 (.tmp rfl) (le_b rfl) rfl) rfl (lt_b rfl) ?_
    refine GoT.qr rfl rfl (QEx.ldP (Vec.cells x4) (Vec.av x4) rfl ag24 ts24 (.tmp rfl) (le_b rfl) rfl) rfl (lt_b rfl) ?_
    refine GoT.q rfl (QEx.cal0 (r := (iAV r5)) [(Vec.av x3), (Vec.av x4)] rfl Tryz.call157 (.cons (.tmp rfl) (.cons (.tmp rfl) .nil)) (ref03_DistanceSquared_ok hr5) rfl rfl) rfl (lt_b rfl) ?_
    refine GoT.q rfl (QEx.cal0 (r := (iAV r6)) [(iAV r5)] rfl Tryz.call133 (.cons (.tmp rfl) .nil) (ref01_Isqrt_ok hr6) rfl rfl) rfl (lt_b rfl) ?_
    refine GoT.q rfl (QEx.cal0 (r := (iAV r7)) [(iAV r6)] rfl Tryz.call121 (.cons (.tmp rfl) .nil) (ref01_Saturate_ok hr7) rfl rfl) rfl (lt_b rfl) ?_
    refine GoT.q rfl (QEx.assign rfl (.tmp rfl)) rfl (lt_b rfl) ?_
    refine GoT.nil ?_
    refine Wp.ret ?_
    cases h
    exact LeafQ.ret [] (by decide) (.cons (.tmp rfl) .nil) rfl
theorem ref12_ContainsPoint_ok {s : Shape} {p : Transform} {v_2 : Vec} {r : Bool} (h : ref12_ContainsPoint s p v_2 = some r) : FnR Tryz.prog 58 [(Shape.av s), (Transform.av p), (Vec.av v_2)] (boolAV r) := by
  refine FnR.intro' (fn := Tryz.f58) (N := 63) Tryz.func58 rfl rfl (Nat.le_of_ble_eq_true rfl) [3, 4, 5, 7, 11, 12, 19, 32, 35, 43, 48, 52, 55] ?_
  refine Wp.seq ?_
  refine Wp.region ?_
  refine GoT.a rfl (AEx.bx (Z := (Shape.cells s)) rfl (.tmp rfl) rfl rfl rfl rfl) rfl (lt_b rfl) ?_
  refine GoT.a rfl (AEx.bx (Z := (Transform.cells p)) rfl (.tmp rfl) rfl rfl rfl rfl) rfl (lt_b rfl) ?_
  refine GoT.a rfl (AEx.bx (Z := (Vec.cells v_2)) rfl (.tmp rfl) rfl rfl rfl rfl) rfl (lt_b rfl) ?_
  refine GoT.q rfl (QEx.as (boolAV false) (QEx.assign rfl .con)) rfl (lt_b rfl) ?_
  refine GoT.nil ?_
  refine bind_e h fun r1 hr1 h => ?_
  refine Wp.seq ?_
  refine Wp.region ?_
  refine GoT.qr rfl rfl (QEx.ldP (Shape.cells s) (Shape.av s) rfl ag33 ts33 (.tmp rfl) (le_b rfl) rfl) rfl (lt_b rfl) ?_
  refine GoT.qr rfl rfl (QEx.ldP (Transform.cells p) (Transform.av p) rfl ag26 ts26 (.tmp rfl) (le_b rfl) rfl) rfl (lt_b rfl) ?_
  refine GoT.c rfl (QEx.cal (r' := (slT 11 0 2 Vec.av r1)) [(Shape.av s), (Transform.av p)] rfl Tryz.call97 (.cons (.tmp rfl) (.cons (.tmp rfl) .nil)) (ref12_Vertices_ok hr1) rfl rfl rfl) rfl rfl (lt_b rfl) ?_
  refine GoT.q rfl (QEx.assign rfl (.tmp rfl)) rfl (lt_b rfl) ?_
  refine GoT.nil ?_
  refine Wp.seq ?_
  refine Wp.seq ?_
  refine Wp.region ?_
  refine GoT.q rfl (QEx.move rfl (.tmp rfl)) rfl (lt_b rfl) ?_
  refine GoT.q rfl (QEx.lenL rfl ⟨_, uT31⟩ (.tmp rfl)) rfl (lt_b rfl) ?_
  refine GoT.q rfl (QEx.eqlK rfl (.tmp rfl) .con) rfl (lt_b rfl) ?_
  refine GoT.nil ?_
  refine Wp.condS h rfl (fun h => ?_) (fun h => ?_)
  · refine Wp.seq ?_
    refine Wp.region ?_
    refine GoT.q rfl (QEx.as (boolAV false) (QEx.assign rfl .con)) rfl (lt_b rfl) ?_
    refine GoT.nil ?_
    refine Wp.ret ?_
    cases h
    exact LeafQ.ret [] (by decide) (.cons (.tmp rfl) .nil) rfl
  · refine Wp.skip ?_
    refine Wp.seq ?_
    refine Wp.seq ?_
    refine Wp.region ?_
    refine GoT.q rfl (QEx.fldP 0 rfl uT33 rfl ts30 rfl (.tmp rfl) rfl) rfl (lt_b rfl) ?_
    refine GoT.qr rfl rfl (QEx.ldP1 (Shape.cells s) (iAV s.Kind) rfl ag30 (.tmp rfl) rfl) rfl (lt_b rfl) ?_
    refine GoT.q rfl (QEx.eqlK rfl (.tmp rfl) .con) rfl (lt_b rfl) ?_
    refine GoT.nil ?_
    refine Wp.condS h rfl (fun h => ?_) (fun h => ?_)
    · refine chk_e h fun c2 h => ?_
      refine let_e h fun r3 hr3 h => ?_
      refine bind_e h fun r4 hr4 h => ?_
      refine let_e h fun x5 hx5 h => ?_
      refine Wp.seq ?_
      refine Wp.drawn2 (n0 := 10) [7, 12, 19, 32, 35, 43, 48, 52, 55] mixed ?_
      refine GoD.qr rfl rfl (QEx.ldP (Vec.cells v_2) (Vec.av v_2) rfl ag24 ts24 (.tmp rfl) (le_b rfl) rfl) rfl (lt_b rfl) ?_
      refine GoD.q rfl (QEx.move rfl (.tmp rfl)) rfl (lt_b rfl) ?_
      refine GoD.q rfl (QEx.as (.cptr (Vec.cells (ix r1 0))) (QEx.idxL (E := Vec.av) rfl et31 (.tmp rfl) .con c2)) rfl (lt_b rfl) ?_
      refine GoD.q rfl (QEx.ldC (x := (Vec.av (ix r1 0))) rfl ag24 ts24 (.tmp rfl) (.inl ⟨rfl, rfl, rfl⟩)) rfl (lt_b rfl) ?_
      refine GoD.q rfl (QEx.cal0 (r := (Vec.av r3)) [(Vec.av v_2), (Vec.av (ix r1 0))] rfl Tryz.call56 (.cons (.tmp rfl) (.cons (.tmp rfl) .nil)) (ref03_Sub_ok hr3) rfl rfl) rfl (lt_b rfl) ?_
      refine GoD.q rfl (QEx.cal0 (r := (iAV r4)) [(Vec.av r3)] rfl Tryz.call88 (.cons (.tmp rfl) .nil) (ref03_Length_ok hr4) rfl rfl) rfl (lt_b rfl) ?_
      refine GoD.q rfl (QEx.fldP 1 rfl uT33 rfl ts3 rfl (.tmp rfl) rfl) rfl (lt_b rfl) ?_
      refine GoD.qr rfl rfl (QEx.ldP1 (Shape.cells s) (iAV s.Radius) rfl ag3 (.tmp rfl) rfl) rfl (lt_b rfl) ?_
      refine GoD.q rfl (QEx.leqK rfl (.tmp rfl) (.tmp rfl)) rfl (lt_b rfl) ?_
      refine GoD.q rfl (QEx.eq (QEx.assign rfl (.tmp rfl)) (congrArg boolAV hx5)) rfl (lt_b rfl) ?_
      refine GoD.nil ⟨by kernel_rfl, by kernel_rfl, by kernel_rfl, by kernel_rfl, by kernel_rfl, ?_⟩
      refine GoT.nil ?_
      refine Wp.ret ?_
      cases h
      exact LeafQ.ret [] (by decide) (.cons (.tmp rfl) .nil) rfl
    · refine Wp.skip ?_
      refine Wp.seq ?_
      refine Wp.seq ?_
      refine Wp.region ?_
      refine GoT.q rfl (QEx.fldP 0 rfl uT33 rfl ts30 rfl (.tmp rfl) rfl) rfl (lt_b rfl) ?_
      refine GoT.qr rfl rfl (QEx.ldP1 (Shape.cells s) (iAV s.Kind) rfl ag30 (.tmp rfl) rfl) rfl (lt_b rfl) ?_
      refine GoT.q rfl (QEx.eqlK rfl (.tmp rfl) .con) rfl (lt_b rfl) ?_
      refine GoT.nil ?_
      refine Wp.condS h rfl (fun h => ?_) (fun h => ?_)
      · refine chk_e h fun c6 h => ?_
        refine chk_e h fun c7 h => ?_
        refine bind_e h fun r8 hr8 h => ?_
        refine let_e h fun x9 hx9 h => ?_
        refine Wp.seq ?_
        refine Wp.drawn2 (n0 := 13) [7, 12, 19, 32, 35, 43, 48, 52, 55] mixed ?_
        refine GoD.qr rfl rfl (QEx.ldP (Vec.cells v_2) (Vec.av v_2) rfl ag24 ts24 (.tmp rfl) (le_b rfl) rfl) rfl (lt_b rfl) ?_
        refine GoD.qr rfl rfl (QEx.ldP (Vec.cells v_2) (Vec.av v_2) rfl ag24 ts24 (.tmp rfl) (le_b rfl) rfl) rfl (lt_b rfl) ?_
        refine GoD.q rfl (QEx.move rfl (.tmp rfl)) rfl (lt_b rfl) ?_
        refine GoD.q rfl (QEx.as (.cptr (Vec.cells (ix r1 0))) (QEx.idxL (E := Vec.av) rfl et31 (.tmp rfl) .con c6)) rfl (lt_b rfl) ?_
        refine GoD.q rfl (QEx.ldC (x := (Vec.av (ix r1 0))) rfl ag24 ts24 (.tmp rfl) (.inl ⟨rfl, rfl, rfl⟩)) rfl (lt_b rfl) ?_
        refine GoD.q rfl (QEx.move rfl (.tmp rfl)) rfl (lt_b rfl) ?_
        refine GoD.q rfl (QEx.as (.cptr (Vec.cells (ix r1 1))) (QEx.idxL (E := Vec.av) rfl et31 (.tmp rfl) .con c7)) rfl (lt_b rfl) ?_
        refine GoD.q rfl (QEx.ldC (x := (Vec.av (ix r1 1))) rfl ag24 ts24 (.tmp rfl) (.inl ⟨rfl, rfl, rfl⟩)) rfl (lt_b rfl) ?_
        refine GoD.q rfl (QEx.cal0 (r := (iAV r8)) [(Vec.av v_2), (Vec.av v_2), (Vec.av (ix r1 0)), (Vec.av (ix r1 1))] rfl Tryz.call114 (.cons (.tmp rfl) (.cons (.tmp rfl) (.cons (.tmp rfl) (.cons (.tmp rfl) .nil)))) (ref10_Distance_ok hr8) rfl rfl) rfl (lt_b rfl) ?_
        refine GoD.q rfl (QEx.fldP 1 rfl uT33 rfl ts3 rfl (.tmp rfl) rfl) rfl (lt_b rfl) ?_
        refine GoD.qr rfl rfl (QEx.ldP1 (Shape.cells s) (iAV s.Radius) rfl ag3 (.tmp rfl) rfl) rfl (lt_b rfl) ?_
        refine GoD.q rfl (QEx.leqK rfl (.tmp rfl) (.tmp rfl)) rfl (lt_b rfl) ?_
        refine GoD.q rfl (QEx.eq (QEx.assign rfl (.tmp rfl)) (congrArg boolAV hx9)) rfl (lt_b rfl) ?_
        refine GoD.nil ⟨by kernel_rfl, by kernel_rfl, by kernel_rfl, by kernel_rfl, by kernel_rfl, ?_⟩
        refine GoT.nil ?_
        refine Wp.ret ?_
        cases h
        exact LeafQ.ret [] (by decide) (.cons (.tmp rfl) .nil) rfl
      · refine Wp.skip ?_
        refine Wp.join0 (⟨[], [], [3, 4, 5, 7, 11, 12, 19, 32, 35, 43, 48, 52, 55]⟩) (ref12_ContainsPoint_j2 = some r) ?_ ?_
        · intro h
          refine Wp.seq ?_
          refine Wp.region ?_
          refine GoT.q rfl (QEx.as (boolAV true) (QEx.assign rfl .con)) rfl (lt_b rfl) ?_
          refine GoT.nil ?_
          refine Wp.ret ?_
          cases h
          exact LeafQ.ret [] (by decide) (.cons (.tmp rfl) .nil) rfl
        · refine Wp.seq ?_
          refine Wp.region ?_
          refine GoT.q rfl (QEx.as (iAV 0) (QEx.assign rfl .con)) rfl (lt_b rfl) ?_
          refine GoT.nil ?_
          refine Wp.block ?_
          refine Wp.loop1 (fun v10 => ⟨[(5, (.ptr 5 0)), (7, (slT 11 0 2 Vec.av r1)), (8, (iAV v10))], [(5, .cells (Vec.cells v_2))], [3, 4, 7, 12, 19, 32, 35, 43, 48, 52, 55]⟩) (fun n v10 => ref12_ContainsPoint_l1 v_2 r1 ref12_ContainsPoint_j2 n v10 = some r) fuel 0 [3, 4] [] h (LS.to.mk (.r rfl rfl (.r rfl rfl (.b rfl rfl .n))) (.b rfl rfl rfl .n) rfl) ?_
          rintro (_ | n2) v10 h
          · exact none_e h
          rw [ref12_ContainsPoint_l1] at h
          refine Wp.seq ?_
          refine Wp.seq ?_
          refine Wp.region ?_
          refine GoT.q rfl (QEx.move rfl (.tmp rfl)) rfl (lt_b rfl) ?_
          refine GoT.q rfl (QEx.move rfl (.tmp rfl)) rfl (lt_b rfl) ?_
          refine GoT.q rfl (QEx.lenL rfl ⟨_, uT31⟩ (.tmp rfl)) rfl (lt_b rfl) ?_
          refine GoT.q rfl (QEx.lssK rfl (.tmp rfl) (.tmp rfl)) rfl (lt_b rfl) ?_
          refine GoT.nil ?_
          refine Wp.condS h rfl (fun h => ?_) (fun h => ?_)
          · refine Wp.skip ?_
            refine Wp.seq ?_
            refine Wp.block ?_
            refine chk_e h fun c11 h => ?_
            refine chk_e h fun c12 h => ?_
            refine chk_e h fun c13 h => ?_
            refine let_e h fun r14 hr14 h => ?_
            refine Wp.seq ?_
            refine Wp.drawn2 (n0 := 15) [3, 4, 7, 12, 19, 32, 35, 43, 48, 52, 55] mixed ?_
            refine GoD.q rfl (QEx.move rfl (.tmp rfl)) rfl (lt_b rfl) ?_
            refine GoD.q rfl (QEx.move rfl (.tmp rfl)) rfl (lt_b rfl) ?_
            refine GoD.q rfl (QEx.as (.cptr (Vec.cells (ix r1 v10))) (QEx.idxL (E := Vec.av) rfl et31 (.tmp rfl) (.tmp rfl) c11)) rfl (lt_b rfl) ?_
            refine GoD.q rfl (QEx.ldC (x := (Vec.av (ix r1 v10))) rfl ag24 ts24 (.tmp rfl) (.inl ⟨rfl, rfl, rfl⟩)) rfl (lt_b rfl) ?_
            refine GoD.q rfl (QEx.move rfl (.tmp rfl)) rfl (lt_b rfl) ?_
            refine GoD.q rfl (QEx.move rfl (.tmp rfl)) rfl (lt_b rfl) ?_
            refine GoD.q rfl (QEx.addK rfl (.tmp rfl) .con) rfl (lt_b rfl) ?_
            refine GoD.q rfl (QEx.move rfl (.tmp rfl)) rfl (lt_b rfl) ?_
            refine GoD.q rfl (QEx.lenL rfl ⟨_, uT31⟩ (.tmp rfl)) rfl (lt_b rfl) ?_
            refine GoD.q rfl (QEx.remK rfl (.tmp rfl) (.tmp rfl) c12) rfl (lt_b rfl) ?_
            refine GoD.q rfl (QEx.as (.cptr (Vec.cells (ix r1 (Int.tmod (w64 (v10 + 1)) ((r1).length : Int))))) (QEx.idxL (E := Vec.av) rfl et31 (.tmp rfl) (.tmp rfl) c13)) rfl (lt_b rfl) ?_
            refine GoD.q rfl (QEx.ldC (x := (Vec.av (ix r1 (Int.tmod (w64 (v10 + 1)) ((r1).length : Int))))) rfl ag24 ts24 (.tmp rfl) (.inl ⟨rfl, rfl, rfl⟩)) rfl (lt_b rfl) ?_
            refine GoD.qr rfl rfl (QEx.ldP (Vec.cells v_2) (Vec.av v_2) rfl ag24 ts24 (.tmp rfl) (le_b rfl) rfl) rfl (lt_b rfl) ?_
            refine GoD.q rfl (QEx.cal0 (r := (iAV r14)) [(Vec.av (ix r1 v10)), (Vec.av (ix r1 (Int.tmod (w64 (v10 + 1)) ((r1).length : Int)))), (Vec.av v_2)] rfl Tryz.call115 (.cons (.tmp rfl) (.cons (.tmp rfl) (.cons (.tmp rfl) .nil))) (ref03_Orientation_ok hr14) rfl rfl) rfl (lt_b rfl) ?_
            refine GoD.q rfl (QEx.lssK rfl (.tmp rfl) .con) rfl (lt_b rfl) ?_
            refine GoD.nil ⟨by kernel_rfl, by kernel_rfl, by kernel_rfl, by kernel_rfl, by kernel_rfl, ?_⟩
            refine GoT.nil ?_
            refine Wp.condS h rfl (fun h => ?_) (fun h => ?_)
            · refine Wp.seq ?_
              refine Wp.region ?_
              refine GoT.q rfl (QEx.as (boolAV false) (QEx.assign rfl .con)) rfl (lt_b rfl) ?_
              refine GoT.nil ?_
              refine Wp.ret ?_
              cases h
              exact LeafQ.ret [] (by decide) (.cons (.tmp rfl) .nil) rfl
            · refine Wp.skip ?_
              refine let_e h fun x15 hx15 h => ?_
              refine Wp.region ?_
              refine GoT.q rfl (QEx.move rfl (.tmp rfl)) rfl (lt_b rfl) ?_
              refine GoT.q rfl (QEx.addK rfl (.tmp rfl) .con) rfl (lt_b rfl) ?_
              refine GoT.q rfl (QEx.eq (QEx.assign rfl (.tmp rfl)) (congrArg iAV hx15)) rfl (lt_b rfl) ?_
              refine GoT.nil ?_
              exact Round1.mk x15 [] [] h (LS.to.mk (.r rfl rfl (.r rfl rfl (.b rfl rfl .n))) (.b rfl rfl rfl .n) rfl)
          · refine Wp.exit ?_
            exact Joined0.mk [5, 11] [] h (LS.to.mk .n .n rfl)
theorem ref23_FixtureAt_ok {b : Body} {point : Vec} {r : Int} (h : ref23_FixtureAt b point = some r) : FnR Tryz.prog 23 [(Body.av b), (Vec.av point)] (iAV r) := by
  refine FnR.intro' (fn := Tryz.f23) (N := 24) Tryz.func23 rfl rfl (Nat.le_of_ble_eq_true rfl) [2, 3] ?_
  refine Wp.seq ?_
  refine Wp.region ?_
  refine GoT.a rfl (AEx.bx (Z := (Body.cells b)) rfl (.tmp rfl) rfl rfl rfl rfl) rfl (lt_b rfl) ?_
  refine GoT.a rfl (AEx.bx (Z := (Vec.cells point)) rfl (.tmp rfl) rfl rfl rfl rfl) rfl (lt_b rfl) ?_
  refine GoT.q rfl (QEx.as (iAV 0) (QEx.assign rfl .con)) rfl (lt_b rfl) ?_
  refine GoT.nil ?_
  refine Wp.join0 (⟨[], [], [2, 3]⟩) (ref23_FixtureAt_j2 = some r) ?_ ?_
  · intro h
    refine Wp.seq ?_
    refine Wp.region ?_
    refine GoT.q rfl (QEx.as (iAV (-1)) (QEx.assign rfl .con)) rfl (lt_b rfl) ?_
    refine GoT.nil ?_
    refine Wp.ret ?_
    cases h
    exact LeafQ.ret [] (by decide) (.cons (.tmp rfl) .nil) rfl
  · refine Wp.seq ?_
    refine Wp.region ?_
    refine GoT.q rfl (QEx.as (iAV 0) (QEx.assign rfl .con)) rfl (lt_b rfl) ?_
    refine GoT.nil ?_
    refine Wp.block ?_
    refine Wp.loop1 (fun v1 => ⟨[(2, (.ptr 2 0)), (3, (.ptr 3 0)), (5, (iAV v1))], [(2, .cells (Body.cells b)), (3, .cells (Vec.cells point))], []⟩) (fun n v1 => ref23_FixtureAt_l1 b point ref23_FixtureAt_j2 n v1 = some r) fuel 0 [] [] h (LS.to.mk (.r rfl rfl (.r rfl rfl (.b rfl rfl .n))) (.b rfl rfl rfl (.b rfl rfl rfl .n)) rfl) ?_
    rintro (_ | n2) v1 h
    · exact none_e h
    rw [ref23_FixtureAt_l1] at h
    refine Wp.seq ?_
    refine Wp.seq ?_
    refine Wp.region ?_
    refine GoT.q rfl (QEx.move rfl (.tmp rfl)) rfl (lt_b rfl) ?_
    refine GoT.q rfl (QEx.fldP 19 rfl uT29 rfl ts27 rfl (.tmp rfl) rfl) rfl (lt_b rfl) ?_
    refine GoT.qr rfl rfl (QEx.ldP1 (Body.cells b) ((slAV 10 Fixture.av) b.Fixtures) rfl ag27 (.tmp rfl) rfl) rfl (lt_b rfl) ?_
    refine GoT.q rfl (QEx.lenL rfl ⟨_, uT27⟩ (.tmp rfl)) rfl (lt_b rfl) ?_
    refine GoT.q rfl (QEx.lssK rfl (.tmp rfl) (.tmp rfl)) rfl (lt_b rfl) ?_
    refine GoT.nil ?_
    refine Wp.condS h rfl (fun h => ?_) (fun h => ?_)
    · refine Wp.skip ?_
      refine Wp.seq ?_
      refine Wp.block ?_
      refine chk_e h fun c2 h => ?_
      refine bind_e h fun r3 hr3 h => ?_
      refine Wp.seq ?_
      refine Wp.drawn2 (n0 := 10) [] mixed ?_
      refine GoD.q rfl (QEx.fldP 19 rfl uT29 rfl ts27 rfl (.tmp rfl) rfl) rfl (lt_b rfl) ?_
      refine GoD.qr rfl rfl (QEx.ldP1 (Body.cells b) ((slAV 10 Fixture.av) b.Fixtures) rfl ag27 (.tmp rfl) rfl) rfl (lt_b rfl) ?_
      refine GoD.q rfl (QEx.move rfl (.tmp rfl)) rfl (lt_b rfl) ?_
      refine GoD.q rfl (QEx.as (.cptr (Fixture.cells (ix b.Fixtures v1))) (QEx.idxL (E := Fixture.av) rfl et27 (.tmp rfl) (.tmp rfl) c2)) rfl (lt_b rfl) ?_
      refine GoD.q rfl (QEx.fldC (Shape.cells ((ix b.Fixtures v1).Shape)) rfl uT35 rfl ts33 rfl (.tmp rfl) rfl) rfl (lt_b rfl) ?_
      refine GoD.q rfl (QEx.ldC (x := (Shape.av ((ix b.Fixtures v1).Shape))) rfl ag33 ts33 (.tmp rfl) (.inl ⟨rfl, rfl, rfl⟩)) rfl (lt_b rfl) ?_
      refine GoD.q rfl (QEx.fldP 2 rfl uT29 rfl ts26 rfl (.tmp rfl) rfl) rfl (lt_b rfl) ?_
      refine GoD.qr rfl rfl (QEx.ldP (Body.cells b) (Transform.av b.Transform) rfl ag26 ts26 (.tmp rfl) (le_b rfl) rfl) rfl (lt_b rfl) ?_
      refine GoD.qr rfl rfl (QEx.ldP (Vec.cells point) (Vec.av point) rfl ag24 ts24 (.tmp rfl) (le_b rfl) rfl) rfl (lt_b rfl) ?_
      refine GoD.q rfl (QEx.cal0 (r := (boolAV r3)) [(Shape.av ((ix b.Fixtures v1).Shape)), (Transform.av b.Transform), (Vec.av point)] rfl Tryz.call58 (.cons (.tmp rfl) (.cons (.tmp rfl) (.cons (.tmp rfl) .nil))) (ref12_ContainsPoint_ok hr3) rfl rfl) rfl (lt_b rfl) ?_
      refine GoD.nil ⟨by kernel_rfl, by kernel_rfl, by kernel_rfl, by kernel_rfl, by kernel_rfl, ?_⟩
      refine GoT.nil ?_
      refine Wp.condS h rfl (fun h => ?_) (fun h => ?_)
      · refine Wp.seq ?_
        refine Wp.region ?_
        refine GoT.q rfl (QEx.move rfl (.tmp rfl)) rfl (lt_b rfl) ?_
        refine GoT.q rfl (QEx.assign rfl (.tmp rfl)) rfl (lt_b rfl) ?_
        refine GoT.nil ?_
        refine Wp.ret ?_
        cases h
        exact LeafQ.ret [] (by decide) (.cons (.tmp rfl) .nil) rfl
      · refine Wp.skip ?_
        refine let_e h fun x4 hx4 h => ?_
        refine Wp.region ?_
        refine GoT.q rfl (QEx.move rfl (.tmp rfl)) rfl (lt_b rfl) ?_
        refine GoT.q rfl (QEx.addK rfl (.tmp rfl) .con) rfl (lt_b rfl) ?_
        refine GoT.q rfl (QEx.eq (QEx.assign rfl (.tmp rfl)) (congrArg iAV hx4)) rfl (lt_b rfl) ?_
        refine GoT.nil ?_
        exact Round1.mk x4 [] [] h (LS.to.mk (.r rfl rfl (.r rfl rfl (.b rfl rfl .n))) (.b rfl rfl rfl (.b rfl rfl rfl .n)) rfl)
    · refine Wp.exit ?_
      exact Joined0.mk [2, 3] [] h (LS.to.mk .n .n rfl)
theorem law23_BodyProperties_ok {b : Body} {point : Vec} {r : Bool} (h : law23_BodyProperties b point = some r) : FnR Tryz.prog 4 [(Body.av b), (Vec.av point)] (boolAV r) := by
  refine FnR.intro' (fn := Tryz.f4) (N := 73) Tryz.func4 rfl rfl (Nat.le_of_ble_eq_true rfl) [2, 3, 5, 7] ?_
  refine Wp.seq ?_
  refine Wp.region ?_
  refine GoT.a rfl (AEx.bx (Z := (Body.cells b)) rfl (.tmp rfl) rfl rfl rfl rfl) rfl (lt_b rfl) ?_
  refine GoT.a rfl (AEx.bx (Z := (Vec.cells point)) rfl (.tmp rfl) rfl rfl rfl rfl) rfl (lt_b rfl) ?_
  refine GoT.q rfl (QEx.as (boolAV false) (QEx.assign rfl .con)) rfl (lt_b rfl) ?_
  refine GoT.nil ?_
  refine Wp.seq ?_
  refine bind_e h fun r1 hr1 h => ?_
  refine Wp.seq ?_
  refine Wp.region ?_
  refine GoT.qr rfl rfl (QEx.ldP (Body.cells b) (Body.av b) rfl ag29 ts29 (.tmp rfl) (le_b rfl) rfl) rfl (lt_b rfl) ?_
  refine GoT.q rfl (QEx.cal0 (r := (boolAV r1)) [(Body.av b)] rfl Tryz.call6 (.cons (.tmp rfl) .nil) (ref23_Small_ok hr1) rfl rfl) rfl (lt_b rfl) ?_
  refine GoT.q rfl (QEx.notK rfl (.tmp rfl)) rfl (lt_b rfl) ?_
  refine GoT.nil ?_
  refine Wp.condS h rfl (fun h => ?_) (fun h => ?_)
  · refine bind_e h fun r2 hr2 h => ?_
    refine Wp.seq ?_
    refine Wp.region ?_
    refine GoT.q rfl (QEx.cal0 (r := (boolAV r2)) [] rfl Tryz.call7 .nil (law23_example_ok hr2) rfl rfl) rfl (lt_b rfl) ?_
    refine GoT.q rfl (QEx.assign rfl (.tmp rfl)) rfl (lt_b rfl) ?_
    refine GoT.nil ?_
    refine Wp.ret ?_
    cases h
    exact LeafQ.ret [] (by decide) (.cons (.tmp rfl) .nil) rfl
  · refine Wp.skip ?_
    refine bind_e h fun r3 hr3 h => ?_
    refine let_e h fun x4 hx4 h => ?_
    refine Wp.seq ?_
    refine Wp.region ?_
    refine GoT.qr rfl rfl (QEx.ldP (Body.cells b) (Body.av b) rfl ag29 ts29 (.tmp rfl) (le_b rfl) rfl) rfl (lt_b rfl) ?_
    refine GoT.q rfl (QEx.cal0 (r := (.tup [(AABB.av r3.1), (boolAV r3.2)])) [(Body.av b)] rfl Tryz.call12 (.cons (.tmp rfl) .nil) (body_Bounds_ok hr3) rfl rfl) rfl (lt_b rfl) ?_
    refine GoT.q rfl (QEx.move rfl (.tmp rfl)) rfl (lt_b rfl) ?_
    refine GoT.q rfl (QEx.extract rfl (.tmp rfl) rfl) rfl (lt_b rfl) ?_
    refine GoT.q rfl (QEx.extract rfl (.tmp rfl) rfl) rfl (lt_b rfl) ?_
    refine GoT.a rfl (AEx.alZ rfl zt45 rfl rfl) rfl (lt_b rfl) ?_
    refine GoT.s rfl (AEx.sto (Z := (AABB.cells x4)) rfl rfl ts45 (.tmp rfl) rfl (.tmp rfl) rfl rfl (le_b rfl) (congrArg (fun (x : AABB) => (AABB.cells x)) hx4)) rfl ?_
    refine GoT.q rfl (QEx.assign rfl (.tmp rfl)) rfl (lt_b rfl) ?_
    refine GoT.nil ?_
    refine bind_e h fun r5 hr5 h => ?_
    refine let_e h fun x6 hx6 h => ?_
    refine Wp.seq ?_
    refine Wp.region ?_
    refine GoT.qr rfl rfl (QEx.ldP (Body.cells b) (Body.av b) rfl ag29 ts29 (.tmp rfl) (le_b rfl) rfl) rfl (lt_b rfl) ?_
    refine GoT.q rfl (QEx.cal0 (r := (.tup [(AABB.av r5.1), (boolAV r5.2)])) [(Body.av b)] rfl Tryz.call13 (.cons (.tmp rfl) .nil) (ref23_Bounds_ok hr5) rfl rfl) rfl (lt_b rfl) ?_
    refine GoT.q rfl (QEx.move rfl (.tmp rfl)) rfl (lt_b rfl) ?_
    refine GoT.q rfl (QEx.extract rfl (.tmp rfl) rfl) rfl (lt_b rfl) ?_
    refine GoT.q rfl (QEx.extract rfl (.tmp rfl) rfl) rfl (lt_b rfl) ?_
    refine GoT.a rfl (AEx.alZ rfl zt45 rfl rfl) rfl (lt_b rfl) ?_
    refine GoT.s rfl (AEx.sto (Z := (AABB.cells x6)) rfl rfl ts45 (.tmp rfl) rfl (.tmp rfl) rfl rfl (le_b rfl) (congrArg (fun (x : AABB) => (AABB.cells x)) hx6)) rfl ?_
    refine GoT.q rfl (QEx.assign rfl (.tmp rfl)) rfl (lt_b rfl) ?_
    refine GoT.nil ?_
    refine bind_e h fun r7 hr7 h => ?_
    refine bind_e h fun r8 hr8 h => ?_
    refine bind_e h fun r9 hr9 h => ?_
    refine bind_e h fun r10 hr10 h => ?_
    refine bind_e h fun r11 hr11 h => ?_
    refine bind_e h fun r12 hr12 h => ?_
    refine bind_e h fun r13 hr13 h => ?_
    refine bind_e h fun r14 hr14 h => ?_
    refine bind_e h fun r15 hr15 h => ?_
    refine bind_e h fun r16 hr16 h => ?_
    refine bind_e h fun r17 hr17 h => ?_
    refine let_e h fun x18 hx18 h => ?_
    refine Wp.seq ?_
    refine Wp.drawn2 (n0 := 51) [] mixed ?_
    refine GoD.qr rfl rfl (QEx.ldP (Body.cells b) (Body.av b) rfl ag29 ts29 (.tmp rfl) (le_b rfl) rfl) rfl (lt_b rfl) ?_
    refine GoD.q rfl (QEx.cal0 (r := (MassData.av r7)) [(Body.av b)] rfl Tryz.call14 (.cons (.tmp rfl) .nil) (body_MassData_ok hr7) rfl rfl) rfl (lt_b rfl) ?_
    refine GoD.qr rfl rfl (QEx.ldP (Body.cells b) (Body.av b) rfl ag29 ts29 (.tmp rfl) (le_b rfl) rfl) rfl (lt_b rfl) ?_
    refine GoD.q rfl (QEx.cal0 (r := (MassData.av r8)) [(Body.av b)] rfl Tryz.call15 (.cons (.tmp rfl) .nil) (ref23_MassData_ok hr8) rfl rfl) rfl (lt_b rfl) ?_
    refine GoD.q rfl (QEx.eqlA rfl eq49 (.tmp rfl) (.tmp rfl)) rfl (lt_b rfl) ?_
    refine GoD.q rfl (QEx.move rfl (.tmp rfl)) rfl (lt_b rfl) ?_
    refine GoD.gr rfl rfl rfl rfl (fun hg => QEx.ldP (Body.cells b) (Body.av b) rfl ag29 ts29 (.tmp rfl) (le_b rfl) rfl) rfl (lt_b rfl) ?_
    refine GoD.g rfl rfl rfl (fun hg => QEx.cal0 (r := (Vec.av r9)) [(Body.av b)] rfl Tryz.call16 (.cons (.opt (.tmp rfl) hg) .nil) (body_WorldCenter_ok (gcall hr9 hg)) rfl rfl) rfl (lt_b rfl) ?_
    refine GoD.gr rfl rfl rfl rfl (fun hg => QEx.ldP (Body.cells b) (Body.av b) rfl ag29 ts29 (.tmp rfl) (le_b rfl) rfl) rfl (lt_b rfl) ?_
    refine GoD.g rfl rfl rfl (fun hg => QEx.cal0 (r := (Vec.av r10)) [(Body.av b)] rfl Tryz.call17 (.cons (.opt (.tmp rfl) hg) .nil) (ref23_WorldCenter_ok (gcall hr10 hg)) rfl rfl) rfl (lt_b rfl) ?_
    refine GoD.g rfl rfl rfl (fun hg => QEx.eqlA rfl eq24 (.opt (.tmp rfl) hg) (.opt (.tmp rfl) hg)) rfl (lt_b rfl) ?_
    refine GoD.q rfl (QEx.pickK rfl (.tmp rfl) (fun hp => (.opt (.tmp rfl) (beq_t hp))) (fun hp => .con)) rfl (lt_b rfl) ?_
    refine GoD.q rfl (QEx.move rfl (.tmp rfl)) rfl (lt_b rfl) ?_
    refine GoD.gr rfl rfl rfl rfl (fun hg => QEx.ldP (Body.cells b) (Body.av b) rfl ag29 ts29 (.tmp rfl) (le_b rfl) rfl) rfl (lt_b rfl) ?_
    refine GoD.g rfl rfl rfl (fun hg => QEx.cal0 (r := (SolverBody.av r11)) [(Body.av b)] rfl Tryz.call18 (.cons (.opt (.tmp rfl) hg) .nil) (body_SolverBody_ok (gcall hr11 hg)) rfl rfl) rfl (lt_b rfl) ?_
    refine GoD.gr rfl rfl rfl rfl (fun hg => QEx.ldP (Body.cells b) (Body.av b) rfl ag29 ts29 (.tmp rfl) (le_b rfl) rfl) rfl (lt_b rfl) ?_
    refine GoD.g rfl rfl rfl (fun hg => QEx.cal0 (r := (SolverBody.av r12)) [(Body.av b)] rfl Tryz.call19 (.cons (.opt (.tmp rfl) hg) .nil) (ref23_SolverBody_ok (gcall hr12 hg)) rfl rfl) rfl (lt_b rfl) ?_
    refine GoD.g rfl rfl rfl (fun hg => QEx.eqlA rfl eq53 (.opt (.tmp rfl) hg) (.opt (.tmp rfl) hg)) rfl (lt_b rfl) ?_
    refine GoD.q rfl (QEx.pickK rfl (.tmp rfl) (fun hp => (.opt (.tmp rfl) (beq_t hp))) (fun hp => .con)) rfl (lt_b rfl) ?_
    refine GoD.q rfl (QEx.move rfl (.tmp rfl)) rfl (lt_b rfl) ?_
    refine GoD.gr rfl rfl rfl rfl (fun hg => QEx.ldP (Body.cells b) (Body.av b) rfl ag29 ts29 (.tmp rfl) (le_b rfl) rfl) rfl (lt_b rfl) ?_
    refine GoD.gr rfl rfl rfl rfl (fun hg => QEx.ldP (Vec.cells point) (Vec.av point) rfl ag24 ts24 (.tmp rfl) (le_b rfl) rfl) rfl (lt_b rfl) ?_
    refine GoD.g rfl rfl rfl (fun hg => QEx.cal0 (r := (Vec.av r13)) [(Body.av b), (Vec.av point)] rfl Tryz.call20 (.cons (.opt (.tmp rfl) hg) (.cons (.opt (.tmp rfl) hg) .nil)) (body_VelocityAt_ok (gcall hr13 hg)) rfl rfl) rfl (lt_b rfl) ?_
    refine GoD.gr rfl rfl rfl rfl (fun hg => QEx.ldP (Body.cells b) (Body.av b) rfl ag29 ts29 (.tmp rfl) (le_b rfl) rfl) rfl (lt_b rfl) ?_
    refine GoD.gr rfl rfl rfl rfl (fun hg => QEx.ldP (Vec.cells point) (Vec.av point) rfl ag24 ts24 (.tmp rfl) (le_b rfl) rfl) rfl (lt_b rfl) ?_
    refine GoD.g rfl rfl rfl (fun hg => QEx.cal0 (r := (Vec.av r14)) [(Body.av b), (Vec.av point)] rfl Tryz.call21 (.cons (.opt (.tmp rfl) hg) (.cons (.opt (.tmp rfl) hg) .nil)) (ref23_VelocityAt_ok (gcall hr14 hg)) rfl rfl) rfl (lt_b rfl) ?_
    refine GoD.g rfl rfl rfl (fun hg => QEx.eqlA rfl eq24 (.opt (.tmp rfl) hg) (.opt (.tmp rfl) hg)) rfl (lt_b rfl) ?_
    refine GoD.q rfl (QEx.pickK rfl (.tmp rfl) (fun hp => (.opt (.tmp rfl) (beq_t hp))) (fun hp => .con)) rfl (lt_b rfl) ?_
    refine GoD.q rfl (QEx.move rfl (.tmp rfl)) rfl (lt_b rfl) ?_
    refine GoD.gr rfl rfl rfl rfl (fun hg => QEx.ldP (AABB.cells x4) (AABB.av x4) rfl ag45 ts45 (.tmp rfl) (le_b rfl) rfl) rfl (lt_b rfl) ?_
    refine GoD.gr rfl rfl rfl rfl (fun hg => QEx.ldP (AABB.cells x6) (AABB.av x6) rfl ag45 ts45 (.tmp rfl) (le_b rfl) rfl) rfl (lt_b rfl) ?_
    refine GoD.g rfl rfl rfl (fun hg => QEx.eqlA rfl eq45 (.opt (.tmp rfl) hg) (.opt (.tmp rfl) hg)) rfl (lt_b rfl) ?_
    refine GoD.q rfl (QEx.pickK rfl (.tmp rfl) (fun hp => (.opt (.tmp rfl) (beq_t hp))) (fun hp => .con)) rfl (lt_b rfl) ?_
    refine GoD.q rfl (QEx.move rfl (.tmp rfl)) rfl (lt_b rfl) ?_
    refine GoD.g rfl rfl rfl (fun hg => QEx.move rfl (.tmp rfl)) rfl (lt_b rfl) ?_
    refine GoD.g rfl rfl rfl (fun hg => QEx.move rfl (.tmp rfl)) rfl (lt_b rfl) ?_
    refine GoD.g rfl rfl rfl (fun hg => QEx.eqlB rfl (.opt (.tmp rfl) hg) (.opt (.tmp rfl) hg) uT4) rfl (lt_b rfl) ?_
    refine GoD.q rfl (QEx.pickK rfl (.tmp rfl) (fun hp => (.opt (.tmp rfl) (beq_t hp))) (fun hp => .con)) rfl (lt_b rfl) ?_
    refine GoD.q rfl (QEx.move rfl (.tmp rfl)) rfl (lt_b rfl) ?_
    refine GoD.gr rfl rfl rfl rfl (fun hg => QEx.ldP (Body.cells b) (Body.av b) rfl ag29 ts29 (.tmp rfl) (le_b rfl) rfl) rfl (lt_b rfl) ?_
    refine GoD.gr rfl rfl rfl rfl (fun hg => QEx.ldP (Vec.cells point) (Vec.av point) rfl ag24 ts24 (.tmp rfl) (le_b rfl) rfl) rfl (lt_b rfl) ?_
    refine GoD.g rfl rfl rfl (fun hg => QEx.cal0 (r := (iAV r15)) [(Body.av b), (Vec.av point)] rfl Tryz.call22 (.cons (.opt (.tmp rfl) hg) (.cons (.opt (.tmp rfl) hg) .nil)) (body_FixtureAt_ok (gcall hr15 hg)) rfl rfl) rfl (lt_b rfl) ?_
    refine GoD.gr rfl rfl rfl rfl (fun hg => QEx.ldP (Body.cells b) (Body.av b) rfl ag29 ts29 (.tmp rfl) (le_b rfl) rfl) rfl (lt_b rfl) ?_
    refine GoD.gr rfl rfl rfl rfl (fun hg => QEx.ldP (Vec.cells point) (Vec.av point) rfl ag24 ts24 (.tmp rfl) (le_b rfl) rfl) rfl (lt_b rfl) ?_
    refine GoD.g rfl rfl rfl (fun hg => QEx.cal0 (r := (iAV r16)) [(Body.av b), (Vec.av point)] rfl Tryz.call23 (.cons (.opt (.tmp rfl) hg) (.cons (.opt (.tmp rfl) hg) .nil)) (ref23_FixtureAt_ok (gcall hr16 hg)) rfl rfl) rfl (lt_b rfl) ?_
    refine GoD.g rfl rfl rfl (fun hg => QEx.eqlK rfl (.opt (.tmp rfl) hg) (.opt (.tmp rfl) hg)) rfl (lt_b rfl) ?_
    refine GoD.q rfl (QEx.pickK rfl (.tmp rfl) (fun hp => (.opt (.tmp rfl) (beq_t hp))) (fun hp => .con)) rfl (lt_b rfl) ?_
    refine GoD.q rfl (QEx.move rfl (.tmp rfl)) rfl (lt_b rfl) ?_
    refine GoD.g rfl rfl rfl (fun hg => QEx.cal0 (r := (boolAV r17)) [] rfl Tryz.call7 .nil (law23_example_ok (gcall hr17 hg)) rfl rfl) rfl (lt_b rfl) ?_
    refine GoD.q rfl (QEx.pickK rfl (.tmp rfl) (fun hp => (.opt (.tmp rfl) (beq_t hp))) (fun hp => .con)) rfl (lt_b rfl) ?_
    refine GoD.q rfl (QEx.eq (QEx.assign rfl (.tmp rfl)) (congrArg boolAV hx18)) rfl (lt_b rfl) ?_
    refine GoD.nil ⟨by kernel_rfl, by kernel_rfl, by kernel_rfl, by kernel_rfl, by kernel_rfl, ?_⟩
    refine GoT.nil ?_
    refine Wp.ret ?_
    cases h
    exact LeafQ.ret [] (by decide) (.cons (.tmp rfl) .nil) rfl
end GoForm
