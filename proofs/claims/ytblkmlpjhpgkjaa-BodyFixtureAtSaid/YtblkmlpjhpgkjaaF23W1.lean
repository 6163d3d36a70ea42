/- The program's functions compute their plain forms: printed by gen2.py. No conditions. -/
import Derived.Test.YtblkmlpjhpgkjaaF23W
set_option linter.all false
set_option maxRecDepth 100000
open Go Go.Cx Go.Proofs Go.RowKit
namespace GoForm
theorem body_Validate_ok {b : Body} {r : Int} (h : body_Validate b = some r) : FnR Try.prog 14 [(Body.av b)] (iAV r) := by
  refine FnR.intro' (fn := Try.f14) (N := 39) Try.func14 rfl rfl (Nat.le_of_ble_eq_true rfl) [1, 4] ?_
  refine Wp.seq ?_
  refine Wp.region ?_
  refine GoT.a rfl (AEx.bx (Z := (Body.cells b)) rfl (.tmp rfl) rfl rfl rfl rfl) rfl (lt_b rfl) ?_
  refine GoT.q rfl (QEx.as (iAV 0) (QEx.assign rfl .con)) rfl (lt_b rfl) ?_
  refine GoT.nil ?_
  refine Wp.seq ?_
  refine Wp.seq ?_
  refine Wp.region ?_
  refine GoT.q rfl (QEx.fldP 1 rfl Try.underlying29 rfl ts22 rfl (.tmp rfl) rfl) rfl (lt_b rfl) ?_
  refine GoT.qr rfl rfl (QEx.ldP1 (Body.cells b) (iAV b.Kind) rfl ag22 (.tmp rfl) rfl) rfl (lt_b rfl) ?_
  refine GoT.q rfl (QEx.neqK rfl (.tmp rfl) .con) rfl (lt_b rfl) ?_
  refine GoT.q rfl (QEx.move rfl (.tmp rfl)) rfl (lt_b rfl) ?_
  refine GoT.g rfl rfl rfl (fun hg => QEx.fldP 1 rfl Try.underlying29 rfl ts22 rfl (.tmp rfl) rfl) rfl (lt_b rfl) ?_
  refine GoT.gr rfl rfl rfl rfl (fun hg => QEx.ldP1 (Body.cells b) (iAV b.Kind) rfl ag22 (.opt (.tmp rfl) hg) rfl) rfl (lt_b rfl) ?_
  refine GoT.g rfl rfl rfl (fun hg => QEx.neqK rfl (.opt (.tmp rfl) hg) .con) rfl (lt_b rfl) ?_
  refine GoT.q rfl (QEx.pickK rfl (.tmp rfl) (fun hp => (.opt (.tmp rfl) (beq_t hp))) (fun hp => .con)) rfl (lt_b rfl) ?_
  refine GoT.q rfl (QEx.move rfl (.tmp rfl)) rfl (lt_b rfl) ?_
  refine GoT.g rfl rfl rfl (fun hg => QEx.fldP 1 rfl Try.underlying29 rfl ts22 rfl (.tmp rfl) rfl) rfl (lt_b rfl) ?_
  refine GoT.gr rfl rfl rfl rfl (fun hg => QEx.ldP1 (Body.cells b) (iAV b.Kind) rfl ag22 (.opt (.tmp rfl) hg) rfl) rfl (lt_b rfl) ?_
  refine GoT.g rfl rfl rfl (fun hg => QEx.neqK rfl (.opt (.tmp rfl) hg) .con) rfl (lt_b rfl) ?_
  refine GoT.q rfl (QEx.pickK rfl (.tmp rfl) (fun hp => (.opt (.tmp rfl) (beq_t hp))) (fun hp => .con)) rfl (lt_b rfl) ?_
  refine GoT.nil ?_
  refine Wp.condS h rfl (fun h => ?_) (fun h => ?_)
  · refine Wp.seq ?_
    refine Wp.region ?_
    refine GoT.q rfl (QEx.as (iAV 10) (QEx.assign rfl .con)) rfl (lt_b rfl) ?_
    refine GoT.nil ?_
    refine Wp.ret ?_
    cases h
    exact LeafQ.ret [] (by decide) (.cons (.tmp rfl) .nil) rfl
  · refine Wp.skip ?_
    refine Wp.seq ?_
    refine let_e h fun r1 hr1 h => ?_
    refine Wp.seq ?_
    refine Wp.region ?_
    refine GoT.qr rfl rfl (QEx.ldP (Body.cells b) (Body.av b) rfl ag29 ts29 (.tmp rfl) (le_b rfl) rfl) rfl (lt_b rfl) ?_
    refine GoT.q rfl (QEx.cal0 (r := (boolAV r1)) [(Body.av b)] rfl Try.call35 (.cons (.tmp rfl) .nil) (body_inRange_ok hr1) rfl rfl) rfl (lt_b rfl) ?_
    refine GoT.q rfl (QEx.notK rfl (.tmp rfl)) rfl (lt_b rfl) ?_
    refine GoT.nil ?_
    refine Wp.condS h rfl (fun h => ?_) (fun h => ?_)
    · refine Wp.seq ?_
      refine Wp.region ?_
      refine GoT.q rfl (QEx.as (iAV 6) (QEx.assign rfl .con)) rfl (lt_b rfl) ?_
      refine GoT.nil ?_
      refine Wp.ret ?_
      cases h
      exact LeafQ.ret [] (by decide) (.cons (.tmp rfl) .nil) rfl
    · refine Wp.skip ?_
      refine Wp.seq ?_
      refine Wp.seq ?_
      refine Wp.region ?_
      refine GoT.q rfl (QEx.fldP 19 rfl Try.underlying29 rfl ts27 rfl (.tmp rfl) rfl) rfl (lt_b rfl) ?_
      refine GoT.qr rfl rfl (QEx.ldP1 (Body.cells b) ((slAV 10 Fixture.av) b.Fixtures) rfl ag27 (.tmp rfl) rfl) rfl (lt_b rfl) ?_
      refine GoT.q rfl (QEx.lenL rfl ⟨_, Try.underlying27⟩ (.tmp rfl)) rfl (lt_b rfl) ?_
      refine GoT.q rfl (QEx.gtrK rfl (.tmp rfl) .con) rfl (lt_b rfl) ?_
      refine GoT.nil ?_
      refine Wp.condS h rfl (fun h => ?_) (fun h => ?_)
      · refine Wp.seq ?_
        refine Wp.region ?_
        refine GoT.q rfl (QEx.as (iAV 11) (QEx.assign rfl .con)) rfl (lt_b rfl) ?_
        refine GoT.nil ?_
        refine Wp.ret ?_
        cases h
        exact LeafQ.ret [] (by decide) (.cons (.tmp rfl) .nil) rfl
      · refine Wp.skip ?_
        refine Wp.join0 (⟨[(1, (.ptr 1 0))], [(1, .cells (Body.cells b))], [4]⟩) ((body_Validate_j2 b) = some r) ?_ ?_
        · intro h
          refine Wp.seq ?_
          refine let_e h fun r7 hr7 h => ?_
          refine Wp.seq ?_
          refine Wp.region ?_
          refine GoT.qr rfl rfl (QEx.ldP (Body.cells b) (Body.av b) rfl ag29 ts29 (.tmp rfl) (le_b rfl) rfl) rfl (lt_b rfl) ?_
          refine GoT.q rfl (QEx.cal0 (r := (boolAV r7)) [(Body.av b)] rfl Try.call37 (.cons (.tmp rfl) .nil) (body_consistent_ok hr7) rfl rfl) rfl (lt_b rfl) ?_
          refine GoT.q rfl (QEx.notK rfl (.tmp rfl)) rfl (lt_b rfl) ?_
          refine GoT.nil ?_
          refine Wp.condS h rfl (fun h => ?_) (fun h => ?_)
          · refine Wp.seq ?_
            refine Wp.region ?_
            refine GoT.q rfl (QEx.as (iAV 14) (QEx.assign rfl .con)) rfl (lt_b rfl) ?_
            refine GoT.nil ?_
            refine Wp.ret ?_
            cases h
            exact LeafQ.ret [] (by decide) (.cons (.tmp rfl) .nil) rfl
          · refine Wp.skip ?_
            refine Wp.seq ?_
            refine Wp.region ?_
            refine GoT.q rfl (QEx.as (iAV 0) (QEx.assign rfl .con)) rfl (lt_b rfl) ?_
            refine GoT.nil ?_
            refine Wp.ret ?_
            cases h
            exact LeafQ.ret [] (by decide) (.cons (.tmp rfl) .nil) rfl
        · refine Wp.seq ?_
          refine Wp.region ?_
          refine GoT.q rfl (QEx.fldP 19 rfl Try.underlying29 rfl ts27 rfl (.tmp rfl) rfl) rfl (lt_b rfl) ?_
          refine GoT.qr rfl rfl (QEx.ldP1 (Body.cells b) ((slAV 10 Fixture.av) b.Fixtures) rfl ag27 (.tmp rfl) rfl) rfl (lt_b rfl) ?_
          refine GoT.q rfl (QEx.lenL rfl ⟨_, Try.underlying27⟩ (.tmp rfl)) rfl (lt_b rfl) ?_
          refine GoT.q rfl (QEx.as (iAV 0) (QEx.move rfl .con)) rfl (lt_b rfl) ?_
          refine GoT.nil ?_
          refine Wp.block ?_
          refine Wp.loop1 (fun v2 => ⟨[(1, (.ptr 1 0)), (26, ((slAV 10 Fixture.av) b.Fixtures)), (27, (iAV ((b.Fixtures).length : Int))), (28, (iAV v2))], [(1, .cells (Body.cells b))], [4]⟩) (fun n v2 => body_Validate_l1 b (body_Validate_j2 b) n v2 = some r) fuel 0 [] [] h (LS.to.mk (.r rfl rfl (.b rfl rfl (.b rfl rfl (.b rfl rfl .n)))) (.b rfl rfl rfl .n) rfl) ?_
          rintro (_ | n2) v2 h
          · exact none_e h
          rw [body_Validate_l1] at h
          refine Wp.seq ?_
          refine Wp.region ?_
          refine GoT.q rfl (QEx.lssK rfl (.tmp rfl) (.tmp rfl)) rfl (lt_b rfl) ?_
          refine GoT.nil ?_
          refine Wp.seq ?_
          refine Wp.condS h rfl (fun h => ?_) (fun h => ?_)
          · refine Wp.skip ?_
            refine Wp.seq ?_
            refine Wp.block ?_
            refine chk_e h fun c3 h => ?_
            refine let_e h fun x4 hx4 h => ?_
            refine Wp.seq ?_
            refine Wp.region ?_
            refine GoT.q rfl (QEx.as (.cptr (Fixture.cells (ix b.Fixtures v2))) (QEx.idxL (E := Fixture.av) rfl et27 (.tmp rfl) (.tmp rfl) c3)) rfl (lt_b rfl) ?_
            refine GoT.q rfl (QEx.ldC (x := (Fixture.av (ix b.Fixtures v2))) rfl ag39 ts39 (.tmp rfl) (.inl ⟨rfl, rfl, rfl⟩)) rfl (lt_b rfl) ?_
            refine GoT.a rfl (AEx.alZ rfl zt39 rfl rfl) rfl (lt_b rfl) ?_
            refine GoT.s rfl (AEx.sto (Z := (Fixture.cells x4)) rfl rfl ts39 (.tmp rfl) rfl (.tmp rfl) rfl rfl (le_b rfl) (congrArg (fun (x : Fixture) => (Fixture.cells x)) hx4)) rfl ?_
            refine GoT.nil ?_
            refine bind_e h fun r5 hr5 h => ?_
            refine Wp.seq ?_
            refine Wp.region ?_
            refine GoT.qr rfl rfl (QEx.ldP (Fixture.cells x4) (Fixture.av x4) rfl ag39 ts39 (.tmp rfl) (le_b rfl) rfl) rfl (lt_b rfl) ?_
            refine GoT.q rfl (QEx.cal0 (r := (iAV r5)) [(Fixture.av x4)] rfl Try.call36 (.cons (.tmp rfl) .nil) (body_ValidateFixture_ok hr5) rfl rfl) rfl (lt_b rfl) ?_
            refine GoT.q rfl (QEx.neqK rfl (.tmp rfl) .con) rfl (lt_b rfl) ?_
            refine GoT.nil ?_
            refine Wp.condS h rfl (fun h => ?_) (fun h => ?_)
            · refine Wp.seq ?_
              refine Wp.region ?_
              refine GoT.q rfl (QEx.as (iAV 13) (QEx.assign rfl .con)) rfl (lt_b rfl) ?_
              refine GoT.nil ?_
              refine Wp.ret ?_
              cases h
              exact LeafQ.ret [] (by decide) (.cons (.tmp rfl) .nil) rfl
            · refine Wp.skip ?_
              refine let_e h fun x6 hx6 h => ?_
              refine Wp.region ?_
              refine GoT.q rfl (QEx.addK rfl (.tmp rfl) .con) rfl (lt_b rfl) ?_
              refine GoT.q rfl (QEx.eq (QEx.move rfl (.tmp rfl)) (congrArg iAV hx6)) rfl (lt_b rfl) ?_
              refine GoT.nil ?_
              exact Round1.mk x6 [4] [] h (LS.to.mk (.r rfl rfl (.b rfl rfl (.b rfl rfl (.b rfl rfl .n)))) (.b rfl rfl rfl .n) rfl)
          · refine Wp.exit ?_
            exact Joined0.mk [] [] h (LS.to.mk (.r rfl rfl .n) (.b rfl rfl rfl .n) rfl)
theorem law23_disk_ok {x_0 : Int} {r : Body} (h : law23_disk x_0 = r) : FnR Try.prog 22 [(iAV x_0)] (Body.av r) := by
  refine FnR.intro' (fn := Try.f22) (N := 12) Try.func22 rfl rfl (Nat.le_of_ble_eq_true rfl) [2, 7, 10] ?_
  refine Wp.seq ?_
  refine Wp.region ?_
  refine GoT.a rfl (AEx.alZ rfl zt29 rfl rfl) rfl (lt_b rfl) ?_
  refine GoT.nil ?_
  refine let_e h fun x1 hx1 h => ?_
  refine Wp.seq ?_
  refine Wp.region ?_
  refine GoT.q rfl (QEx.move rfl (.tmp rfl)) rfl (lt_b rfl) ?_
  refine GoT.q rfl (QEx.as (Vec.av (⟨x_0, 0⟩ : Vec)) (QEx.buildZ rfl Try.underlying24 zt24 (by kernel_rfl) (.cons rfl (.tmp rfl) rfl rfl (le_b rfl) .nil))) rfl (lt_b rfl) ?_
  refine GoT.q rfl (QEx.as (Transform.av (⟨(⟨x_0, 0⟩ : Vec), 0⟩ : Transform)) (QEx.buildZ rfl Try.underlying26 zt26 (by kernel_rfl) (.cons rfl (.tmp rfl) rfl rfl (le_b rfl) .nil))) rfl (lt_b rfl) ?_
  refine GoT.q rfl (QEx.as (Vec.av (⟨0, 0⟩ : Vec)) (QEx.buildZ rfl Try.underlying24 zt24 (by kernel_rfl) .nil)) rfl (lt_b rfl) ?_
  refine GoT.q rfl (QEx.as (slT 7 0 2 Vec.av ([(⟨0, 0⟩ : Vec)] : List Vec)) (QEx.buildSlice rfl et35 (.cons (.tmp rfl) rfl rfl rfl .nil) rfl (by decide))) rfl (lt_b rfl) ?_
  refine GoT.q rfl (QEx.as (Shape.av (⟨1, 65536, ([(⟨0, 0⟩ : Vec)] : List Vec)⟩ : Shape)) (QEx.buildZ rfl Try.underlying37 zt37 (by kernel_rfl) (.cons rfl .con rfl rfl (le_b rfl) (.cons rfl .con rfl rfl (le_b rfl) (.cons rfl (.drop (.tmp rfl)) rfl rfl (le_b rfl) .nil))))) rfl (lt_b rfl) ?_
  refine GoT.q rfl (QEx.as (Fixture.av (⟨(⟨1, 65536, ([(⟨0, 0⟩ : Vec)] : List Vec)⟩ : Shape), 65536, 0, 0, false, 1, 1, 0⟩ : Fixture)) (QEx.buildZ rfl Try.underlying39 zt39 (by kernel_rfl) (.cons rfl (.tmp rfl) rfl rfl (le_b rfl) (.cons rfl .con rfl rfl (le_b rfl) (.cons rfl .con rfl rfl (le_b rfl) (.cons rfl .con rfl rfl (le_b rfl) .nil)))))) rfl (lt_b rfl) ?_
  refine GoT.q rfl (QEx.as (slT 10 0 10 Fixture.av ([(⟨(⟨1, 65536, ([(⟨0, 0⟩ : Vec)] : List Vec)⟩ : Shape), 65536, 0, 0, false, 1, 1, 0⟩ : Fixture)] : List Fixture)) (QEx.buildSlice rfl et27 (.cons (.tmp rfl) rfl rfl rfl .nil) rfl (by decide))) rfl (lt_b rfl) ?_
  refine GoT.q rfl (QEx.as (Body.av (⟨1, 3, (⟨(⟨x_0, 0⟩ : Vec), 0⟩ : Transform), Vec.zero, 0, Vec.zero, 0, 0, 0, 65536, false, false, false, false, 0, ([(⟨(⟨1, 65536, ([(⟨0, 0⟩ : Vec)] : List Vec)⟩ : Shape), 65536, 0, 0, false, 1, 1, 0⟩ : Fixture)] : List Fixture)⟩ : Body)) (QEx.buildZ rfl Try.underlying29 zt29 (by kernel_rfl) (.cons rfl .con rfl rfl (le_b rfl) (.cons rfl .con rfl rfl (le_b rfl) (.cons rfl (.tmp rfl) rfl rfl (le_b rfl) (.cons rfl .con rfl rfl (le_b rfl) (.cons rfl (.drop (.tmp rfl)) rfl rfl (le_b rfl) .nil))))))) rfl (lt_b rfl) ?_
  refine GoT.s rfl (AEx.sto (Z := (Body.cells x1)) rfl rfl ts29 (.tmp rfl) rfl (.tmp rfl) rfl rfl (le_b rfl) (congrArg (fun (x : Body) => (Body.cells x)) hx1)) rfl ?_
  refine GoT.nil ?_
  refine Wp.ret ?_
  cases h
  exact LeafQ.ret [] (by decide) (.cons (.agg rfl rfl ag29 ts29) .nil) rfl
theorem fixed_Mul_ok {a : Int} {b : Int} {r : Int} (h : fixed_Mul a b = some r) : FnR Try.prog 32 [(iAV a), (iAV b)] (iAV r) := by
  refine FnR.intro' (fn := Try.f32) (N := 12) Try.func32 rfl rfl (Nat.le_of_ble_eq_true rfl) [] ?_
  refine Wp.seq ?_
  refine Wp.region ?_
  refine GoT.q rfl (QEx.as (iAV 0) (QEx.assign rfl .con)) rfl (lt_b rfl) ?_
  refine GoT.nil ?_
  refine let_e h fun r1 hr1 h => ?_
  refine let_e h fun r2 hr2 h => ?_
  refine bind_e h fun r3 hr3 h => ?_
  refine let_e h fun r4 hr4 h => ?_
  refine Wp.seq ?_
  refine Wp.region ?_
  refine GoT.q rfl (QEx.move rfl (.tmp rfl)) rfl (lt_b rfl) ?_
  refine GoT.q rfl (QEx.cal0 (r := (iAV r1)) [(iAV a)] rfl Try.call54 (.cons (.tmp rfl) .nil) (fixed_Saturate_ok hr1) rfl rfl) rfl (lt_b rfl) ?_
  refine GoT.q rfl (QEx.move rfl (.tmp rfl)) rfl (lt_b rfl) ?_
  refine GoT.q rfl (QEx.cal0 (r := (iAV r2)) [(iAV b)] rfl Try.call54 (.cons (.tmp rfl) .nil) (fixed_Saturate_ok hr2) rfl rfl) rfl (lt_b rfl) ?_
  refine GoT.q rfl (QEx.mulK rfl (.tmp rfl) (.tmp rfl)) rfl (lt_b rfl) ?_
  refine GoT.q rfl (QEx.cal0 (r := (iAV r3)) [(iAV (w64 (r1 * r2))), (iAV 65536)] rfl Try.call55 (.cons (.tmp rfl) (.cons .con .nil)) (fixed_RoundDiv_ok hr3) rfl rfl) rfl (lt_b rfl) ?_
  refine GoT.q rfl (QEx.cal0 (r := (iAV r4)) [(iAV r3)] rfl Try.call54 (.cons (.tmp rfl) .nil) (fixed_Saturate_ok hr4) rfl rfl) rfl (lt_b rfl) ?_
  refine GoT.q rfl (QEx.assign rfl (.tmp rfl)) rfl (lt_b rfl) ?_
  refine GoT.nil ?_
  refine Wp.ret ?_
  cases h
  exact LeafQ.ret [] (by decide) (.cons (.tmp rfl) .nil) rfl
theorem massdata_ofCircle_ok {s : Shape} {density : Int} {r : MassData} (h : massdata_ofCircle s density = some r) : FnR Try.prog 102 [(Shape.av s), (iAV density)] (MassData.av r) := by
  refine FnR.intro' (fn := Try.f102) (N := 26) Try.func102 rfl rfl (Nat.le_of_ble_eq_true rfl) [2, 4] ?_
  refine Wp.seq ?_
  refine Wp.region ?_
  refine GoT.a rfl (AEx.bx (Z := (Shape.cells s)) rfl (.tmp rfl) rfl rfl rfl rfl) rfl (lt_b rfl) ?_
  refine GoT.a rfl (AEx.alZ rfl zt78 rfl rfl) rfl (lt_b rfl) ?_
  refine GoT.nil ?_
  refine bind_e h fun r1 hr1 h => ?_
  refine Wp.seq ?_
  refine Wp.region ?_
  refine GoT.q rfl (QEx.fldP 1 rfl Try.underlying37 rfl ts3 rfl (.tmp rfl) rfl) rfl (lt_b rfl) ?_
  refine GoT.qr rfl rfl (QEx.ldP1 (Shape.cells s) (iAV s.Radius) rfl ag3 (.tmp rfl) rfl) rfl (lt_b rfl) ?_
  refine GoT.q rfl (QEx.fldP 1 rfl Try.underlying37 rfl ts3 rfl (.tmp rfl) rfl) rfl (lt_b rfl) ?_
  refine GoT.qr rfl rfl (QEx.ldP1 (Shape.cells s) (iAV s.Radius) rfl ag3 (.tmp rfl) rfl) rfl (lt_b rfl) ?_
  refine GoT.q rfl (QEx.cal0 (r := (iAV r1)) [(iAV s.Radius), (iAV s.Radius)] rfl Try.call32 (.cons (.tmp rfl) (.cons (.tmp rfl) .nil)) (fixed_Mul_ok hr1) rfl rfl) rfl (lt_b rfl) ?_
  refine GoT.q rfl (QEx.assign rfl (.tmp rfl)) rfl (lt_b rfl) ?_
  refine GoT.nil ?_
  refine bind_e h fun r2 hr2 h => ?_
  refine bind_e h fun r3 hr3 h => ?_
  refine Wp.seq ?_
  refine Wp.region ?_
  refine GoT.q rfl (QEx.move rfl (.tmp rfl)) rfl (lt_b rfl) ?_
  refine GoT.q rfl (QEx.cal0 (r := (iAV r2)) [(iAV 205888), (iAV r1)] rfl Try.call32 (.cons .con (.cons (.tmp rfl) .nil)) (fixed_Mul_ok hr2) rfl rfl) rfl (lt_b rfl) ?_
  refine GoT.q rfl (QEx.move rfl (.tmp rfl)) rfl (lt_b rfl) ?_
  refine GoT.q rfl (QEx.cal0 (r := (iAV r3)) [(iAV r2), (iAV density)] rfl Try.call32 (.cons (.tmp rfl) (.cons (.tmp rfl) .nil)) (fixed_Mul_ok hr3) rfl rfl) rfl (lt_b rfl) ?_
  refine GoT.q rfl (QEx.assign rfl (.tmp rfl)) rfl (lt_b rfl) ?_
  refine GoT.nil ?_
  refine chk_e h fun c4 h => ?_
  refine bind_e h fun r5 hr5 h => ?_
  refine bind_e h fun r6 hr6 h => ?_
  refine let_e h fun x7 hx7 h => ?_
  refine Wp.seq ?_
  refine Wp.drawn2 (n0 := 11) [] mixed ?_
  refine GoD.q rfl (QEx.move rfl (.tmp rfl)) rfl (lt_b rfl) ?_
  refine GoD.q rfl (QEx.fldP 2 rfl Try.underlying37 rfl ts35 rfl (.tmp rfl) rfl) rfl (lt_b rfl) ?_
  refine GoD.qr rfl rfl (QEx.ldP1 (Shape.cells s) ((slAV 2 Vec.av) s.Vertices) rfl ag35 (.tmp rfl) rfl) rfl (lt_b rfl) ?_
  refine GoD.q rfl (QEx.as (.cptr (Vec.cells (ix s.Vertices 0))) (QEx.idxL (E := Vec.av) rfl et35 (.tmp rfl) .con c4)) rfl (lt_b rfl) ?_
  refine GoD.q rfl (QEx.ldC (x := (Vec.av (ix s.Vertices 0))) rfl ag24 ts24 (.tmp rfl) (.inl ⟨rfl, rfl, rfl⟩)) rfl (lt_b rfl) ?_
  refine GoD.q rfl (QEx.move rfl (.tmp rfl)) rfl (lt_b rfl) ?_
  refine GoD.q rfl (QEx.move rfl (.tmp rfl)) rfl (lt_b rfl) ?_
  refine GoD.q rfl (QEx.cal0 (r := (iAV r5)) [(iAV r1), (iAV 2)] rfl Try.call55 (.cons (.tmp rfl) (.cons .con .nil)) (fixed_RoundDiv_ok hr5) rfl rfl) rfl (lt_b rfl) ?_
  refine GoD.q rfl (QEx.cal0 (r := (iAV r6)) [(iAV r3), (iAV r5)] rfl Try.call32 (.cons (.tmp rfl) (.cons (.tmp rfl) .nil)) (fixed_Mul_ok hr6) rfl rfl) rfl (lt_b rfl) ?_
  refine GoD.q rfl (QEx.as (MassData.av (⟨r3, (ix s.Vertices 0), r6⟩ : MassData)) (QEx.buildZ rfl Try.underlying78 zt78 (by kernel_rfl) (.cons rfl (.tmp rfl) rfl rfl (le_b rfl) (.cons rfl (.tmp rfl) rfl rfl (le_b rfl) (.cons rfl (.tmp rfl) rfl rfl (le_b rfl) .nil))))) rfl (lt_b rfl) ?_
  refine GoD.s rfl (Z := (MassData.cells x7)) rfl rfl ts78 (.tmp rfl) rfl (.tmp rfl) rfl rfl (le_b rfl) (congrArg (fun (x : MassData) => (MassData.cells x)) hx7) ?_
  refine GoD.nil ⟨by kernel_rfl, by kernel_rfl, by kernel_rfl, by kernel_rfl, by kernel_rfl, ?_⟩
  refine GoT.nil ?_
  refine Wp.ret ?_
  cases h
  exact LeafQ.ret [] (by decide) (.cons (.agg rfl rfl ag78 ts78) .nil) rfl
theorem fixed_Add_ok {a : Int} {b : Int} {r : Int} (h : fixed_Add a b = r) : FnR Try.prog 31 [(iAV a), (iAV b)] (iAV r) := by
  refine FnR.intro' (fn := Try.f31) (N := 11) Try.func31 rfl rfl (Nat.le_of_ble_eq_true rfl) [] ?_
  refine Wp.seq ?_
  refine Wp.region ?_
  refine GoT.q rfl (QEx.as (iAV 0) (QEx.assign rfl .con)) rfl (lt_b rfl) ?_
  refine GoT.nil ?_
  refine let_e h fun r1 hr1 h => ?_
  refine let_e h fun r2 hr2 h => ?_
  refine let_e h fun r3 hr3 h => ?_
  refine Wp.seq ?_
  refine Wp.region ?_
  refine GoT.q rfl (QEx.move rfl (.tmp rfl)) rfl (lt_b rfl) ?_
  refine GoT.q rfl (QEx.cal0 (r := (iAV r1)) [(iAV a)] rfl Try.call54 (.cons (.tmp rfl) .nil) (fixed_Saturate_ok hr1) rfl rfl) rfl (lt_b rfl) ?_
  refine GoT.q rfl (QEx.move rfl (.tmp rfl)) rfl (lt_b rfl) ?_
  refine GoT.q rfl (QEx.cal0 (r := (iAV r2)) [(iAV b)] rfl Try.call54 (.cons (.tmp rfl) .nil) (fixed_Saturate_ok hr2) rfl rfl) rfl (lt_b rfl) ?_
  refine GoT.q rfl (QEx.addK rfl (.tmp rfl) (.tmp rfl)) rfl (lt_b rfl) ?_
  refine GoT.q rfl (QEx.cal0 (r := (iAV r3)) [(iAV (w64 (r1 + r2)))] rfl Try.call54 (.cons (.tmp rfl) .nil) (fixed_Saturate_ok hr3) rfl rfl) rfl (lt_b rfl) ?_
  refine GoT.q rfl (QEx.assign rfl (.tmp rfl)) rfl (lt_b rfl) ?_
  refine GoT.nil ?_
  refine Wp.ret ?_
  cases h
  exact LeafQ.ret [] (by decide) (.cons (.tmp rfl) .nil) rfl
theorem fixed_Lerp_ok {a : Int} {b : Int} {t : Int} {r : Int} (h : fixed_Lerp a b t = some r) : FnR Try.prog 99 [(iAV a), (iAV b), (iAV t)] (iAV r) := by
  refine FnR.intro' (fn := Try.f99) (N := 14) Try.func99 rfl rfl (Nat.le_of_ble_eq_true rfl) [] ?_
  refine Wp.seq ?_
  refine Wp.region ?_
  refine GoT.q rfl (QEx.as (iAV 0) (QEx.assign rfl .con)) rfl (lt_b rfl) ?_
  refine GoT.nil ?_
  refine let_e h fun r1 hr1 h => ?_
  refine bind_e h fun r2 hr2 h => ?_
  refine let_e h fun r3 hr3 h => ?_
  refine Wp.seq ?_
  refine Wp.region ?_
  refine GoT.q rfl (QEx.move rfl (.tmp rfl)) rfl (lt_b rfl) ?_
  refine GoT.q rfl (QEx.move rfl (.tmp rfl)) rfl (lt_b rfl) ?_
  refine GoT.q rfl (QEx.move rfl (.tmp rfl)) rfl (lt_b rfl) ?_
  refine GoT.q rfl (QEx.cal0 (r := (iAV r1)) [(iAV b), (iAV a)] rfl Try.call47 (.cons (.tmp rfl) (.cons (.tmp rfl) .nil)) (fixed_Sub_ok hr1) rfl rfl) rfl (lt_b rfl) ?_
  refine GoT.q rfl (QEx.move rfl (.tmp rfl)) rfl (lt_b rfl) ?_
  refine GoT.q rfl (QEx.cal0 (r := (iAV r2)) [(iAV r1), (iAV t)] rfl Try.call32 (.cons (.tmp rfl) (.cons (.tmp rfl) .nil)) (fixed_Mul_ok hr2) rfl rfl) rfl (lt_b rfl) ?_
  refine GoT.q rfl (QEx.cal0 (r := (iAV r3)) [(iAV a), (iAV r2)] rfl Try.call31 (.cons (.tmp rfl) (.cons (.tmp rfl) .nil)) (fixed_Add_ok hr3) rfl rfl) rfl (lt_b rfl) ?_
  refine GoT.q rfl (QEx.assign rfl (.tmp rfl)) rfl (lt_b rfl) ?_
  refine GoT.nil ?_
  refine Wp.ret ?_
  cases h
  exact LeafQ.ret [] (by decide) (.cons (.tmp rfl) .nil) rfl
theorem vec2_Lerp_ok {a : Vec} {b : Vec} {t : Int} {r : Vec} (h : vec2_Lerp a b t = some r) : FnR Try.prog 88 [(Vec.av a), (Vec.av b), (iAV t)] (Vec.av r) := by
  refine FnR.intro' (fn := Try.f88) (N := 20) Try.func88 rfl rfl (Nat.le_of_ble_eq_true rfl) [3, 4, 6] ?_
  refine Wp.seq ?_
  refine Wp.region ?_
  refine GoT.a rfl (AEx.bx (Z := (Vec.cells a)) rfl (.tmp rfl) rfl rfl rfl rfl) rfl (lt_b rfl) ?_
  refine GoT.a rfl (AEx.bx (Z := (Vec.cells b)) rfl (.tmp rfl) rfl rfl rfl rfl) rfl (lt_b rfl) ?_
  refine GoT.a rfl (AEx.alZ rfl zt24 rfl rfl) rfl (lt_b rfl) ?_
  refine GoT.nil ?_
  refine bind_e h fun r1 hr1 h => ?_
  refine bind_e h fun r2 hr2 h => ?_
  refine let_e h fun x3 hx3 h => ?_
  refine Wp.seq ?_
  refine Wp.drawn2 (n0 := 14) [] mixed ?_
  refine GoD.q rfl (QEx.fldP 0 rfl Try.underlying24 rfl ts3 rfl (.tmp rfl) rfl) rfl (lt_b rfl) ?_
  refine GoD.qr rfl rfl (QEx.ldP1 (Vec.cells a) (iAV a.X) rfl ag3 (.tmp rfl) rfl) rfl (lt_b rfl) ?_
  refine GoD.q rfl (QEx.fldP 0 rfl Try.underlying24 rfl ts3 rfl (.tmp rfl) rfl) rfl (lt_b rfl) ?_
  refine GoD.qr rfl rfl (QEx.ldP1 (Vec.cells b) (iAV b.X) rfl ag3 (.tmp rfl) rfl) rfl (lt_b rfl) ?_
  refine GoD.q rfl (QEx.move rfl (.tmp rfl)) rfl (lt_b rfl) ?_
  refine GoD.q rfl (QEx.cal0 (r := (iAV r1)) [(iAV a.X), (iAV b.X), (iAV t)] rfl Try.call99 (.cons (.tmp rfl) (.cons (.tmp rfl) (.cons (.tmp rfl) .nil))) (fixed_Lerp_ok hr1) rfl rfl) rfl (lt_b rfl) ?_
  refine GoD.q rfl (QEx.fldP 1 rfl Try.underlying24 rfl ts3 rfl (.tmp rfl) rfl) rfl (lt_b rfl) ?_
  refine GoD.qr rfl rfl (QEx.ldP1 (Vec.cells a) (iAV a.Y) rfl ag3 (.tmp rfl) rfl) rfl (lt_b rfl) ?_
  refine GoD.q rfl (QEx.fldP 1 rfl Try.underlying24 rfl ts3 rfl (.tmp rfl) rfl) rfl (lt_b rfl) ?_
  refine GoD.qr rfl rfl (QEx.ldP1 (Vec.cells b) (iAV b.Y) rfl ag3 (.tmp rfl) rfl) rfl (lt_b rfl) ?_
  refine GoD.q rfl (QEx.move rfl (.tmp rfl)) rfl (lt_b rfl) ?_
  refine GoD.q rfl (QEx.cal0 (r := (iAV r2)) [(iAV a.Y), (iAV b.Y), (iAV t)] rfl Try.call99 (.cons (.tmp rfl) (.cons (.tmp rfl) (.cons (.tmp rfl) .nil))) (fixed_Lerp_ok hr2) rfl rfl) rfl (lt_b rfl) ?_
  refine GoD.q rfl (QEx.as (Vec.av (⟨r1, r2⟩ : Vec)) (QEx.buildZ rfl Try.underlying24 zt24 (by kernel_rfl) (.cons rfl (.tmp rfl) rfl rfl (le_b rfl) (.cons rfl (.tmp rfl) rfl rfl (le_b rfl) .nil)))) rfl (lt_b rfl) ?_
  refine GoD.s rfl (Z := (Vec.cells x3)) rfl rfl ts24 (.tmp rfl) rfl (.tmp rfl) rfl rfl (le_b rfl) (congrArg (fun (x : Vec) => (Vec.cells x)) hx3) ?_
  refine GoD.nil ⟨by kernel_rfl, by kernel_rfl, by kernel_rfl, by kernel_rfl, by kernel_rfl, ?_⟩
  refine GoT.nil ?_
  refine Wp.ret ?_
  cases h
  exact LeafQ.ret [] (by decide) (.cons (.agg rfl rfl ag24 ts24) .nil) rfl
theorem massdata_ofCapsule_ok {s : Shape} {density : Int} {r : MassData} (h : massdata_ofCapsule s density = some r) : FnR Try.prog 103 [(Shape.av s), (iAV density)] (MassData.av r) := by
  refine FnR.intro' (fn := Try.f103) (N := 59) Try.func103 rfl rfl (Nat.le_of_ble_eq_true rfl) [2, 4] ?_
  refine Wp.seq ?_
  refine Wp.region ?_
  refine GoT.a rfl (AEx.bx (Z := (Shape.cells s)) rfl (.tmp rfl) rfl rfl rfl rfl) rfl (lt_b rfl) ?_
  refine GoT.a rfl (AEx.alZ rfl zt78 rfl rfl) rfl (lt_b rfl) ?_
  refine GoT.nil ?_
  refine bind_e h fun r1 hr1 h => ?_
  refine chk_e h fun c2 h => ?_
  refine chk_e h fun c3 h => ?_
  refine let_e h fun r4 hr4 h => ?_
  refine bind_e h fun r5 hr5 h => ?_
  refine Wp.seq ?_
  refine Wp.drawn2 (n0 := 17) [] mixed ?_
  refine GoD.q rfl (QEx.fldP 1 rfl Try.underlying37 rfl ts3 rfl (.tmp rfl) rfl) rfl (lt_b rfl) ?_
  refine GoD.qr rfl rfl (QEx.ldP1 (Shape.cells s) (iAV s.Radius) rfl ag3 (.tmp rfl) rfl) rfl (lt_b rfl) ?_
  refine GoD.q rfl (QEx.fldP 1 rfl Try.underlying37 rfl ts3 rfl (.tmp rfl) rfl) rfl (lt_b rfl) ?_
  refine GoD.qr rfl rfl (QEx.ldP1 (Shape.cells s) (iAV s.Radius) rfl ag3 (.tmp rfl) rfl) rfl (lt_b rfl) ?_
  refine GoD.q rfl (QEx.cal0 (r := (iAV r1)) [(iAV s.Radius), (iAV s.Radius)] rfl Try.call32 (.cons (.tmp rfl) (.cons (.tmp rfl) .nil)) (fixed_Mul_ok hr1) rfl rfl) rfl (lt_b rfl) ?_
  refine GoD.q rfl (QEx.fldP 2 rfl Try.underlying37 rfl ts35 rfl (.tmp rfl) rfl) rfl (lt_b rfl) ?_
  refine GoD.qr rfl rfl (QEx.ldP1 (Shape.cells s) ((slAV 2 Vec.av) s.Vertices) rfl ag35 (.tmp rfl) rfl) rfl (lt_b rfl) ?_
  refine GoD.q rfl (QEx.as (.cptr (Vec.cells (ix s.Vertices 1))) (QEx.idxL (E := Vec.av) rfl et35 (.tmp rfl) .con c2)) rfl (lt_b rfl) ?_
  refine GoD.q rfl (QEx.ldC (x := (Vec.av (ix s.Vertices 1))) rfl ag24 ts24 (.tmp rfl) (.inl ⟨rfl, rfl, rfl⟩)) rfl (lt_b rfl) ?_
  refine GoD.q rfl (QEx.fldP 2 rfl Try.underlying37 rfl ts35 rfl (.tmp rfl) rfl) rfl (lt_b rfl) ?_
  refine GoD.qr rfl rfl (QEx.ldP1 (Shape.cells s) ((slAV 2 Vec.av) s.Vertices) rfl ag35 (.tmp rfl) rfl) rfl (lt_b rfl) ?_
  refine GoD.q rfl (QEx.as (.cptr (Vec.cells (ix s.Vertices 0))) (QEx.idxL (E := Vec.av) rfl et35 (.tmp rfl) .con c3)) rfl (lt_b rfl) ?_
  refine GoD.q rfl (QEx.ldC (x := (Vec.av (ix s.Vertices 0))) rfl ag24 ts24 (.tmp rfl) (.inl ⟨rfl, rfl, rfl⟩)) rfl (lt_b rfl) ?_
  refine GoD.q rfl (QEx.cal0 (r := (Vec.av r4)) [(Vec.av (ix s.Vertices 1)), (Vec.av (ix s.Vertices 0))] rfl Try.call28 (.cons (.tmp rfl) (.cons (.tmp rfl) .nil)) (vec2_Sub_ok hr4) rfl rfl) rfl (lt_b rfl) ?_
  refine GoD.q rfl (QEx.cal0 (r := (iAV r5)) [(Vec.av r4)] rfl Try.call42 (.cons (.tmp rfl) .nil) (vec2_Length_ok hr5) rfl rfl) rfl (lt_b rfl) ?_
  refine GoD.q rfl (QEx.assign rfl (.tmp rfl)) rfl (lt_b rfl) ?_
  refine GoD.q rfl (QEx.assign rfl (.tmp rfl)) rfl (lt_b rfl) ?_
  refine GoD.nil ⟨by kernel_rfl, by kernel_rfl, by kernel_rfl, by kernel_rfl, by kernel_rfl, ?_⟩
  refine GoT.nil ?_
  refine bind_e h fun r6 hr6 h => ?_
  refine let_e h fun r7 hr7 h => ?_
  refine bind_e h fun r8 hr8 h => ?_
  refine let_e h fun r9 hr9 h => ?_
  refine Wp.seq ?_
  refine Wp.drawn2 (n0 := 11) [] mixed ?_
  refine GoD.q rfl (QEx.move rfl (.tmp rfl)) rfl (lt_b rfl) ?_
  refine GoD.q rfl (QEx.cal0 (r := (iAV r6)) [(iAV 205888), (iAV r1)] rfl Try.call32 (.cons .con (.cons (.tmp rfl) .nil)) (fixed_Mul_ok hr6) rfl rfl) rfl (lt_b rfl) ?_
  refine GoD.q rfl (QEx.fldP 1 rfl Try.underlying37 rfl ts3 rfl (.tmp rfl) rfl) rfl (lt_b rfl) ?_
  refine GoD.qr rfl rfl (QEx.ldP1 (Shape.cells s) (iAV s.Radius) rfl ag3 (.tmp rfl) rfl) rfl (lt_b rfl) ?_
  refine GoD.q rfl (QEx.fldP 1 rfl Try.underlying37 rfl ts3 rfl (.tmp rfl) rfl) rfl (lt_b rfl) ?_
  refine GoD.qr rfl rfl (QEx.ldP1 (Shape.cells s) (iAV s.Radius) rfl ag3 (.tmp rfl) rfl) rfl (lt_b rfl) ?_
  refine GoD.q rfl (QEx.cal0 (r := (iAV r7)) [(iAV s.Radius), (iAV s.Radius)] rfl Try.call31 (.cons (.tmp rfl) (.cons (.tmp rfl) .nil)) (fixed_Add_ok hr7) rfl rfl) rfl (lt_b rfl) ?_
  refine GoD.q rfl (QEx.move rfl (.tmp rfl)) rfl (lt_b rfl) ?_
  refine GoD.q rfl (QEx.cal0 (r := (iAV r8)) [(iAV r7), (iAV r5)] rfl Try.call32 (.cons (.tmp rfl) (.cons (.tmp rfl) .nil)) (fixed_Mul_ok hr8) rfl rfl) rfl (lt_b rfl) ?_
  refine GoD.q rfl (QEx.cal0 (r := (iAV r9)) [(iAV r6), (iAV r8)] rfl Try.call31 (.cons (.tmp rfl) (.cons (.tmp rfl) .nil)) (fixed_Add_ok hr9) rfl rfl) rfl (lt_b rfl) ?_
  refine GoD.q rfl (QEx.assign rfl (.tmp rfl)) rfl (lt_b rfl) ?_
  refine GoD.nil ⟨by kernel_rfl, by kernel_rfl, by kernel_rfl, by kernel_rfl, by kernel_rfl, ?_⟩
  refine GoT.nil ?_
  refine bind_e h fun r10 hr10 h => ?_
  refine Wp.seq ?_
  refine Wp.region ?_
  refine GoT.q rfl (QEx.move rfl (.tmp rfl)) rfl (lt_b rfl) ?_
  refine GoT.q rfl (QEx.move rfl (.tmp rfl)) rfl (lt_b rfl) ?_
  refine GoT.q rfl (QEx.cal0 (r := (iAV r10)) [(iAV r9), (iAV density)] rfl Try.call32 (.cons (.tmp rfl) (.cons (.tmp rfl) .nil)) (fixed_Mul_ok hr10) rfl rfl) rfl (lt_b rfl) ?_
  refine GoT.q rfl (QEx.assign rfl (.tmp rfl)) rfl (lt_b rfl) ?_
  refine GoT.nil ?_
  refine bind_e h fun r11 hr11 h => ?_
  refine bind_e h fun r12 hr12 h => ?_
  refine bind_e h fun r13 hr13 h => ?_
  refine let_e h fun r14 hr14 h => ?_
  refine Wp.seq ?_
  refine Wp.region ?_
  refine GoT.q rfl (QEx.move rfl (.tmp rfl)) rfl (lt_b rfl) ?_
  refine GoT.q rfl (QEx.cal0 (r := (iAV r11)) [(iAV r1), (iAV 2)] rfl Try.call55 (.cons (.tmp rfl) (.cons .con .nil)) (fixed_RoundDiv_ok hr11) rfl rfl) rfl (lt_b rfl) ?_
  refine GoT.q rfl (QEx.move rfl (.tmp rfl)) rfl (lt_b rfl) ?_
  refine GoT.q rfl (QEx.move rfl (.tmp rfl)) rfl (lt_b rfl) ?_
  refine GoT.q rfl (QEx.cal0 (r := (iAV r12)) [(iAV r5), (iAV r5)] rfl Try.call32 (.cons (.tmp rfl) (.cons (.tmp rfl) .nil)) (fixed_Mul_ok hr12) rfl rfl) rfl (lt_b rfl) ?_
  refine GoT.q rfl (QEx.cal0 (r := (iAV r13)) [(iAV r12), (iAV 12)] rfl Try.call55 (.cons (.tmp rfl) (.cons .con .nil)) (fixed_RoundDiv_ok hr13) rfl rfl) rfl (lt_b rfl) ?_
  refine GoT.q rfl (QEx.cal0 (r := (iAV r14)) [(iAV r11), (iAV r13)] rfl Try.call31 (.cons (.tmp rfl) (.cons (.tmp rfl) .nil)) (fixed_Add_ok hr14) rfl rfl) rfl (lt_b rfl) ?_
  refine GoT.q rfl (QEx.assign rfl (.tmp rfl)) rfl (lt_b rfl) ?_
  refine GoT.nil ?_
  refine chk_e h fun c15 h => ?_
  refine chk_e h fun c16 h => ?_
  refine bind_e h fun r17 hr17 h => ?_
  refine bind_e h fun r18 hr18 h => ?_
  refine let_e h fun x19 hx19 h => ?_
  refine Wp.seq ?_
  refine Wp.drawn2 (n0 := 15) [] mixed ?_
  refine GoD.q rfl (QEx.move rfl (.tmp rfl)) rfl (lt_b rfl) ?_
  refine GoD.q rfl (QEx.fldP 2 rfl Try.underlying37 rfl ts35 rfl (.tmp rfl) rfl) rfl (lt_b rfl) ?_
  refine GoD.qr rfl rfl (QEx.ldP1 (Shape.cells s) ((slAV 2 Vec.av) s.Vertices) rfl ag35 (.tmp rfl) rfl) rfl (lt_b rfl) ?_
  refine GoD.q rfl (QEx.as (.cptr (Vec.cells (ix s.Vertices 0))) (QEx.idxL (E := Vec.av) rfl et35 (.tmp rfl) .con c15)) rfl (lt_b rfl) ?_
  refine GoD.q rfl (QEx.ldC (x := (Vec.av (ix s.Vertices 0))) rfl ag24 ts24 (.tmp rfl) (.inl ⟨rfl, rfl, rfl⟩)) rfl (lt_b rfl) ?_
  refine GoD.q rfl (QEx.fldP 2 rfl Try.underlying37 rfl ts35 rfl (.tmp rfl) rfl) rfl (lt_b rfl) ?_
  refine GoD.qr rfl rfl (QEx.ldP1 (Shape.cells s) ((slAV 2 Vec.av) s.Vertices) rfl ag35 (.tmp rfl) rfl) rfl (lt_b rfl) ?_
  refine GoD.q rfl (QEx.as (.cptr (Vec.cells (ix s.Vertices 1))) (QEx.idxL (E := Vec.av) rfl et35 (.tmp rfl) .con c16)) rfl (lt_b rfl) ?_
  refine GoD.q rfl (QEx.ldC (x := (Vec.av (ix s.Vertices 1))) rfl ag24 ts24 (.tmp rfl) (.inl ⟨rfl, rfl, rfl⟩)) rfl (lt_b rfl) ?_
  refine GoD.q rfl (QEx.cal0 (r := (Vec.av r17)) [(Vec.av (ix s.Vertices 0)), (Vec.av (ix s.Vertices 1)), (iAV 32768)] rfl Try.call88 (.cons (.tmp rfl) (.cons (.tmp rfl) (.cons .con .nil))) (vec2_Lerp_ok hr17) rfl rfl) rfl (lt_b rfl) ?_
  refine GoD.q rfl (QEx.move rfl (.tmp rfl)) rfl (lt_b rfl) ?_
  refine GoD.q rfl (QEx.move rfl (.tmp rfl)) rfl (lt_b rfl) ?_
  refine GoD.q rfl (QEx.cal0 (r := (iAV r18)) [(iAV r10), (iAV r14)] rfl Try.call32 (.cons (.tmp rfl) (.cons (.tmp rfl) .nil)) (fixed_Mul_ok hr18) rfl rfl) rfl (lt_b rfl) ?_
  refine GoD.q rfl (QEx.as (MassData.av (⟨r10, r17, r18⟩ : MassData)) (QEx.buildZ rfl Try.underlying78 zt78 (by kernel_rfl) (.cons rfl (.tmp rfl) rfl rfl (le_b rfl) (.cons rfl (.tmp rfl) rfl rfl (le_b rfl) (.cons rfl (.tmp rfl) rfl rfl (le_b rfl) .nil))))) rfl (lt_b rfl) ?_
  refine GoD.s rfl (Z := (MassData.cells x19)) rfl rfl ts78 (.tmp rfl) rfl (.tmp rfl) rfl rfl (le_b rfl) (congrArg (fun (x : MassData) => (MassData.cells x)) hx19) ?_
  refine GoD.nil ⟨by kernel_rfl, by kernel_rfl, by kernel_rfl, by kernel_rfl, by kernel_rfl, ?_⟩
  refine GoT.nil ?_
  refine Wp.ret ?_
  cases h
  exact LeafQ.ret [] (by decide) (.cons (.agg rfl rfl ag78 ts78) .nil) rfl
theorem polygon_Centroid_ok {vertices : List Vec} {r : Vec} (h : polygon_Centroid vertices = some r) : FnR Try.prog 109 [((slAV 2 Vec.av) vertices)] (Vec.av r) := by
  refine FnR.intro' (fn := Try.f109) (N := 73) Try.func109 rfl rfl (Nat.le_of_ble_eq_true rfl) [2, 3, 8, 9, 14, 15, 20, 23, 54, 63] ?_
  refine Wp.seq ?_
  refine Wp.region ?_
  refine GoT.a rfl (AEx.alZ rfl zt24 rfl rfl) rfl (lt_b rfl) ?_
  refine GoT.nil ?_
  refine Wp.seq ?_
  refine bind_e h fun r1 hr1 h => ?_
  refine Wp.seq ?_
  refine Wp.region ?_
  refine GoT.q rfl (QEx.move rfl (.tmp rfl)) rfl (lt_b rfl) ?_
  refine GoT.q rfl (QEx.cal0 (r := (boolAV r1)) [((slAV 2 Vec.av) vertices)] rfl Try.call82 (.cons (.tmp rfl) .nil) (polygon_IsConvex_ok hr1) rfl rfl) rfl (lt_b rfl) ?_
  refine GoT.q rfl (QEx.notK rfl (.tmp rfl)) rfl (lt_b rfl) ?_
  refine GoT.nil ?_
  refine Wp.condS h rfl (fun h => ?_) (fun h => ?_)
  · refine let_e h fun x2 hx2 h => ?_
    refine Wp.seq ?_
    refine Wp.region ?_
    refine GoT.q rfl (QEx.as (Vec.av (⟨0, 0⟩ : Vec)) (QEx.buildZ rfl Try.underlying24 zt24 (by kernel_rfl) .nil)) rfl (lt_b rfl) ?_
    refine GoT.s rfl (AEx.sto (Z := (Vec.cells x2)) rfl rfl ts24 (.tmp rfl) rfl (.tmp rfl) rfl rfl (le_b rfl) (congrArg (fun (x : Vec) => (Vec.cells x)) hx2)) rfl ?_
    refine GoT.nil ?_
    refine Wp.ret ?_
    cases h
    exact LeafQ.ret [] (by decide) (.cons (.agg rfl rfl ag24 ts24) .nil) rfl
  · refine Wp.skip ?_
    refine bind_e h fun r3 hr3 h => ?_
    refine Wp.seq ?_
    refine Wp.region ?_
    refine GoT.q rfl (QEx.move rfl (.tmp rfl)) rfl (lt_b rfl) ?_
    refine GoT.c rfl (QEx.cal (r' := (.tup [(slT 15 0 5 polygon_triangle.av r3.1), (iAV r3.2)])) [((slAV 2 Vec.av) vertices)] rfl Try.call97 (.cons (.tmp rfl) .nil) (polygon_fan_ok hr3) rfl rfl rfl) rfl rfl (lt_b rfl) ?_
    refine GoT.q rfl (QEx.move rfl (.tmp rfl)) rfl (lt_b rfl) ?_
    refine GoT.q rfl (QEx.extract rfl (.tmp rfl) rfl) rfl (lt_b rfl) ?_
    refine GoT.q rfl (QEx.extract rfl (.tmp rfl) rfl) rfl (lt_b rfl) ?_
    refine GoT.q rfl (QEx.assign rfl (.tmp rfl)) rfl (lt_b rfl) ?_
    refine GoT.q rfl (QEx.assign rfl (.tmp rfl)) rfl (lt_b rfl) ?_
    refine GoT.nil ?_
    refine Wp.seq ?_
    refine Wp.seq ?_
    refine Wp.region ?_
    refine GoT.q rfl (QEx.move rfl (.tmp rfl)) rfl (lt_b rfl) ?_
    refine GoT.q rfl (QEx.eqlK rfl (.tmp rfl) .con) rfl (lt_b rfl) ?_
    refine GoT.nil ?_
    refine Wp.condS h rfl (fun h => ?_) (fun h => ?_)
    · refine chk_e h fun c4 h => ?_
      refine let_e h fun x5 hx5 h => ?_
      refine Wp.seq ?_
      refine Wp.region ?_
      refine GoT.q rfl (QEx.move rfl (.tmp rfl)) rfl (lt_b rfl) ?_
      refine GoT.q rfl (QEx.as (.cptr (Vec.cells (ix vertices 0))) (QEx.idxL (E := Vec.av) rfl et35 (.tmp rfl) .con c4)) rfl (lt_b rfl) ?_
      refine GoT.q rfl (QEx.ldC (x := (Vec.av (ix vertices 0))) rfl ag24 ts24 (.tmp rfl) (.inl ⟨rfl, rfl, rfl⟩)) rfl (lt_b rfl) ?_
      refine GoT.s rfl (AEx.sto (Z := (Vec.cells x5)) rfl rfl ts24 (.tmp rfl) rfl (.tmp rfl) rfl rfl (le_b rfl) (congrArg (fun (x : Vec) => (Vec.cells x)) hx5)) rfl ?_
      refine GoT.nil ?_
      refine Wp.ret ?_
      cases h
      exact LeafQ.ret [] (by decide) (.cons (.agg rfl rfl ag24 ts24) .nil) rfl
    · refine Wp.skip ?_
      refine Wp.seq ?_
      refine Wp.region ?_
      refine GoT.q rfl (QEx.as (iAV 0) (QEx.assign rfl .con)) rfl (lt_b rfl) ?_
      refine GoT.q rfl (QEx.as (iAV 0) (QEx.assign rfl .con)) rfl (lt_b rfl) ?_
      refine GoT.nil ?_
      refine Wp.join2 (fun v6 v7 => ⟨[(0, ((slAV 2 Vec.av) vertices)), (2, (.ptr 2 0)), (4, (iAV r3.2)), (5, (iAV v6)), (6, (iAV v7))], [(2, .cells (Vec.cells Vec.zero))], [3, 8, 9, 14, 15, 20, 23, 54, 63]⟩) (fun v6 v7 => (polygon_Centroid_j2 vertices r3) v6 v7 = some r) ?_ ?_
      · intro v6 v7 h
        refine chk_e h fun c16 h => ?_
        refine bind_e h fun r17 hr17 h => ?_
        refine chk_e h fun c18 h => ?_
        refine bind_e h fun r19 hr19 h => ?_
        refine let_e h fun x20 hx20 h => ?_
        refine Wp.seq ?_
        refine Wp.drawn2 (n0 := 20) [3, 8, 9, 14, 15, 20, 23, 54, 63] mixed ?_
        refine GoD.q rfl (QEx.move rfl (.tmp rfl)) rfl (lt_b rfl) ?_
        refine GoD.q rfl (QEx.as (.cptr (Vec.cells (ix vertices 0))) (QEx.idxL (E := Vec.av) rfl et35 (.tmp rfl) .con c16)) rfl (lt_b rfl) ?_
        refine GoD.q rfl (QEx.fldC [(iAV ((ix vertices 0).X))] rfl Try.underlying24 rfl ts3 rfl (.tmp rfl) rfl) rfl (lt_b rfl) ?_
        refine GoD.q rfl (QEx.ldC (x := (iAV ((ix vertices 0).X))) rfl ag3 ts3 (.tmp rfl) (.inr ⟨rfl, rfl⟩)) rfl (lt_b rfl) ?_
        refine GoD.q rfl (QEx.move rfl (.tmp rfl)) rfl (lt_b rfl) ?_
        refine GoD.q rfl (QEx.move rfl (.tmp rfl)) rfl (lt_b rfl) ?_
        refine GoD.q rfl (QEx.mulK rfl .con (.tmp rfl)) rfl (lt_b rfl) ?_
        refine GoD.q rfl (QEx.cal0 (r := (iAV r17)) [(iAV v6), (iAV (w64 (3 * r3.2)))] rfl Try.call55 (.cons (.tmp rfl) (.cons (.tmp rfl) .nil)) (fixed_RoundDiv_ok hr17) rfl rfl) rfl (lt_b rfl) ?_
        refine GoD.q rfl (QEx.addK rfl (.tmp rfl) (.tmp rfl)) rfl (lt_b rfl) ?_
        refine GoD.q rfl (QEx.move rfl (.tmp rfl)) rfl (lt_b rfl) ?_
        refine GoD.q rfl (QEx.as (.cptr (Vec.cells (ix vertices 0))) (QEx.idxL (E := Vec.av) rfl et35 (.tmp rfl) .con c18)) rfl (lt_b rfl) ?_
        refine GoD.q rfl (QEx.fldC [(iAV ((ix vertices 0).Y))] rfl Try.underlying24 rfl ts3 rfl (.tmp rfl) rfl) rfl (lt_b rfl) ?_
        refine GoD.q rfl (QEx.ldC (x := (iAV ((ix vertices 0).Y))) rfl ag3 ts3 (.tmp rfl) (.inr ⟨rfl, rfl⟩)) rfl (lt_b rfl) ?_
        refine GoD.q rfl (QEx.move rfl (.tmp rfl)) rfl (lt_b rfl) ?_
        refine GoD.q rfl (QEx.move rfl (.tmp rfl)) rfl (lt_b rfl) ?_
        refine GoD.q rfl (QEx.mulK rfl .con (.tmp rfl)) rfl (lt_b rfl) ?_
        refine GoD.q rfl (QEx.cal0 (r := (iAV r19)) [(iAV v7), (iAV (w64 (3 * r3.2)))] rfl Try.call55 (.cons (.tmp rfl) (.cons (.tmp rfl) .nil)) (fixed_RoundDiv_ok hr19) rfl rfl) rfl (lt_b rfl) ?_
        refine GoD.q rfl (QEx.addK rfl (.tmp rfl) (.tmp rfl)) rfl (lt_b rfl) ?_
        refine GoD.q rfl (QEx.as (Vec.av (⟨(w64 (((ix vertices 0).X) + r17)), (w64 (((ix vertices 0).Y) + r19))⟩ : Vec)) (QEx.buildZ rfl Try.underlying24 zt24 (by kernel_rfl) (.cons rfl (.tmp rfl) rfl rfl (le_b rfl) (.cons rfl (.tmp rfl) rfl rfl (le_b rfl) .nil)))) rfl (lt_b rfl) ?_
        refine GoD.s rfl (Z := (Vec.cells x20)) rfl rfl ts24 (.tmp rfl) rfl (.tmp rfl) rfl rfl (le_b rfl) (congrArg (fun (x : Vec) => (Vec.cells x)) hx20) ?_
        refine GoD.nil ⟨by kernel_rfl, by kernel_rfl, by kernel_rfl, by kernel_rfl, by kernel_rfl, ?_⟩
        refine GoT.nil ?_
        refine Wp.ret ?_
        cases h
        exact LeafQ.ret [] (by decide) (.cons (.agg rfl rfl ag24 ts24) .nil) rfl
      · refine Wp.seq ?_
        refine Wp.region ?_
        refine GoT.q rfl (QEx.move rfl (.tmp rfl)) rfl (lt_b rfl) ?_
        refine GoT.q rfl (QEx.lenL rfl ⟨_, Try.underlying118⟩ (.tmp rfl)) rfl (lt_b rfl) ?_
        refine GoT.q rfl (QEx.as (iAV 0) (QEx.move rfl .con)) rfl (lt_b rfl) ?_
        refine GoT.nil ?_
        refine Wp.block ?_
        refine Wp.loop3 (fun v8 v9 v10 => ⟨[(0, ((slAV 2 Vec.av) vertices)), (2, (.ptr 2 0)), (4, (iAV r3.2)), (5, (iAV v8)), (6, (iAV v9)), (23, (slT 15 0 5 polygon_triangle.av r3.1)), (24, (iAV ((r3.1).length : Int))), (25, (iAV v10))], [(2, .cells (Vec.cells Vec.zero))], [3, 8, 9, 14, 20, 23, 54, 63]⟩) (fun n v8 v9 v10 => polygon_Centroid_l1 r3 (polygon_Centroid_j2 vertices r3) n v8 v9 v10 = some r) fuel 0 0 0 [] [] h (LS.to.mk (.b rfl rfl (.r rfl rfl (.b rfl rfl (.b rfl rfl (.b rfl rfl (.r rfl rfl (.b rfl rfl (.b rfl rfl .n)))))))) (.b rfl rfl rfl .n) rfl) ?_
        rintro (_ | n2) v8 v9 v10 h
        · exact none_e h
        rw [polygon_Centroid_l1] at h
        refine Wp.seq ?_
        refine Wp.region ?_
        refine GoT.q rfl (QEx.lssK rfl (.tmp rfl) (.tmp rfl)) rfl (lt_b rfl) ?_
        refine GoT.nil ?_
        refine Wp.seq ?_
        refine Wp.condS h rfl (fun h => ?_) (fun h => ?_)
        · refine Wp.skip ?_
          refine Wp.seq ?_
          refine Wp.block ?_
          refine chk_e h fun c11 h => ?_
          refine let_e h fun x12 hx12 h => ?_
          refine Wp.seq ?_
          refine Wp.region ?_
          refine GoT.q rfl (QEx.as (.cptr (polygon_triangle.cells (ix r3.1 v10))) (QEx.idxL (E := polygon_triangle.av) rfl et118 (.tmp rfl) (.tmp rfl) c11)) rfl (lt_b rfl) ?_
          refine GoT.q rfl (QEx.ldC (x := (polygon_triangle.av (ix r3.1 v10))) rfl ag124 ts124 (.tmp rfl) (.inl ⟨rfl, rfl, rfl⟩)) rfl (lt_b rfl) ?_
          refine GoT.a rfl (AEx.alZ rfl zt124 rfl rfl) rfl (lt_b rfl) ?_
          refine GoT.s rfl (AEx.sto (Z := (polygon_triangle.cells x12)) rfl rfl ts124 (.tmp rfl) rfl (.tmp rfl) rfl rfl (le_b rfl) (congrArg (fun (x : polygon_triangle) => (polygon_triangle.cells x)) hx12)) rfl ?_
          refine GoT.nil ?_
          refine let_e h fun x13 hx13 h => ?_
          refine Wp.seq ?_
          refine Wp.region ?_
          refine GoT.q rfl (QEx.move rfl (.tmp rfl)) rfl (lt_b rfl) ?_
          refine GoT.q rfl (QEx.fldP 0 rfl Try.underlying124 rfl ts24 rfl (.tmp rfl) rfl) rfl (lt_b rfl) ?_
          refine GoT.q rfl (QEx.fldP 0 rfl Try.underlying24 rfl ts3 rfl (.tmp rfl) rfl) rfl (lt_b rfl) ?_
          refine GoT.qr rfl rfl (QEx.ldP1 (polygon_triangle.cells x12) (iAV x12.e.X) rfl ag3 (.tmp rfl) rfl) rfl (lt_b rfl) ?_
          refine GoT.q rfl (QEx.fldP 2 rfl Try.underlying124 rfl ts24 rfl (.tmp rfl) rfl) rfl (lt_b rfl) ?_
          refine GoT.q rfl (QEx.fldP 2 rfl Try.underlying24 rfl ts3 rfl (.tmp rfl) rfl) rfl (lt_b rfl) ?_
          refine GoT.qr rfl rfl (QEx.ldP1 (polygon_triangle.cells x12) (iAV x12.f.X) rfl ag3 (.tmp rfl) rfl) rfl (lt_b rfl) ?_
          refine GoT.q rfl (QEx.addK rfl (.tmp rfl) (.tmp rfl)) rfl (lt_b rfl) ?_
          refine GoT.q rfl (QEx.fldP 4 rfl Try.underlying124 rfl ts3 rfl (.tmp rfl) rfl) rfl (lt_b rfl) ?_
          refine GoT.qr rfl rfl (QEx.ldP1 (polygon_triangle.cells x12) (iAV x12.cross) rfl ag3 (.tmp rfl) rfl) rfl (lt_b rfl) ?_
          refine GoT.q rfl (QEx.mulK rfl (.tmp rfl) (.tmp rfl)) rfl (lt_b rfl) ?_
          refine GoT.q rfl (QEx.addK rfl (.tmp rfl) (.tmp rfl)) rfl (lt_b rfl) ?_
          refine GoT.q rfl (QEx.eq (QEx.assign rfl (.tmp rfl)) (congrArg iAV hx13)) rfl (lt_b rfl) ?_
          refine GoT.nil ?_
          refine let_e h fun x14 hx14 h => ?_
          refine Wp.region ?_
          refine GoT.q rfl (QEx.move rfl (.tmp rfl)) rfl (lt_b rfl) ?_
          refine GoT.q rfl (QEx.fldP 0 rfl Try.underlying124 rfl ts24 rfl (.tmp rfl) rfl) rfl (lt_b rfl) ?_
          refine GoT.q rfl (QEx.fldP 1 rfl Try.underlying24 rfl ts3 rfl (.tmp rfl) rfl) rfl (lt_b rfl) ?_
          refine GoT.qr rfl rfl (QEx.ldP1 (polygon_triangle.cells x12) (iAV x12.e.Y) rfl ag3 (.tmp rfl) rfl) rfl (lt_b rfl) ?_
          refine GoT.q rfl (QEx.fldP 2 rfl Try.underlying124 rfl ts24 rfl (.tmp rfl) rfl) rfl (lt_b rfl) ?_
          refine GoT.q rfl (QEx.fldP 3 rfl Try.underlying24 rfl ts3 rfl (.tmp rfl) rfl) rfl (lt_b rfl) ?_
          refine GoT.qr rfl rfl (QEx.ldP1 (polygon_triangle.cells x12) (iAV x12.f.Y) rfl ag3 (.tmp rfl) rfl) rfl (lt_b rfl) ?_
          refine GoT.q rfl (QEx.addK rfl (.tmp rfl) (.tmp rfl)) rfl (lt_b rfl) ?_
          refine GoT.q rfl (QEx.fldP 4 rfl Try.underlying124 rfl ts3 rfl (.tmp rfl) rfl) rfl (lt_b rfl) ?_
          refine GoT.qr rfl rfl (QEx.ldP1 (polygon_triangle.cells x12) (iAV x12.cross) rfl ag3 (.tmp rfl) rfl) rfl (lt_b rfl) ?_
          refine GoT.q rfl (QEx.mulK rfl (.tmp rfl) (.tmp rfl)) rfl (lt_b rfl) ?_
          refine GoT.q rfl (QEx.addK rfl (.tmp rfl) (.tmp rfl)) rfl (lt_b rfl) ?_
          refine GoT.q rfl (QEx.eq (QEx.assign rfl (.tmp rfl)) (congrArg iAV hx14)) rfl (lt_b rfl) ?_
          refine GoT.nil ?_
          refine let_e h fun x15 hx15 h => ?_
          refine Wp.region ?_
          refine GoT.q rfl (QEx.addK rfl (.tmp rfl) .con) rfl (lt_b rfl) ?_
          refine GoT.q rfl (QEx.eq (QEx.move rfl (.tmp rfl)) (congrArg iAV hx15)) rfl (lt_b rfl) ?_
          refine GoT.nil ?_
          exact Round3.mk x13 x14 x15 [8] [] h (LS.to.mk (.b rfl rfl (.r rfl rfl (.b rfl rfl (.b rfl rfl (.b rfl rfl (.r rfl rfl (.b rfl rfl (.b rfl rfl .n)))))))) (.b rfl rfl rfl .n) rfl)
        · refine Wp.exit ?_
          exact Joined2.mk v8 v9 [15] [] h (LS.to.mk (.b rfl rfl (.r rfl rfl (.b rfl rfl (.b rfl rfl (.b rfl rfl .n))))) (.b rfl rfl rfl .n) rfl)
theorem vec2_product_ok {n_0 : Int} {r : Int} (h : vec2_product n_0 = some r) : FnR Try.prog 57 [(iAV n_0)] (iAV r) := by
  refine FnR.intro' (fn := Try.f57) (N := 6) Try.func57 rfl rfl (Nat.le_of_ble_eq_true rfl) [] ?_
  refine Wp.seq ?_
  refine Wp.region ?_
  refine GoT.q rfl (QEx.as (iAV 0) (QEx.assign rfl .con)) rfl (lt_b rfl) ?_
  refine GoT.nil ?_
  refine bind_e h fun r1 hr1 h => ?_
  refine let_e h fun r2 hr2 h => ?_
  refine Wp.seq ?_
  refine Wp.region ?_
  refine GoT.q rfl (QEx.move rfl (.tmp rfl)) rfl (lt_b rfl) ?_
  refine GoT.q rfl (QEx.cal0 (r := (iAV r1)) [(iAV n_0), (iAV 65536)] rfl Try.call55 (.cons (.tmp rfl) (.cons .con .nil)) (fixed_RoundDiv_ok hr1) rfl rfl) rfl (lt_b rfl) ?_
  refine GoT.q rfl (QEx.cal0 (r := (iAV r2)) [(iAV r1)] rfl Try.call54 (.cons (.tmp rfl) .nil) (fixed_Saturate_ok hr2) rfl rfl) rfl (lt_b rfl) ?_
  refine GoT.q rfl (QEx.assign rfl (.tmp rfl)) rfl (lt_b rfl) ?_
  refine GoT.nil ?_
  refine Wp.ret ?_
  cases h
  exact LeafQ.ret [] (by decide) (.cons (.tmp rfl) .nil) rfl
theorem vec2_Cross_ok {a : Vec} {b : Vec} {r : Int} (h : vec2_Cross a b = some r) : FnR Try.prog 33 [(Vec.av a), (Vec.av b)] (iAV r) := by
  refine FnR.intro' (fn := Try.f33) (N := 21) Try.func33 rfl rfl (Nat.le_of_ble_eq_true rfl) [2, 3] ?_
  refine Wp.seq ?_
  refine Wp.region ?_
  refine GoT.a rfl (AEx.bx (Z := (Vec.cells a)) rfl (.tmp rfl) rfl rfl rfl rfl) rfl (lt_b rfl) ?_
  refine GoT.a rfl (AEx.bx (Z := (Vec.cells b)) rfl (.tmp rfl) rfl rfl rfl rfl) rfl (lt_b rfl) ?_
  refine GoT.q rfl (QEx.as (iAV 0) (QEx.assign rfl .con)) rfl (lt_b rfl) ?_
  refine GoT.nil ?_
  refine let_e h fun r1 hr1 h => ?_
  refine let_e h fun r2 hr2 h => ?_
  refine let_e h fun x3 hx3 h => ?_
  refine let_e h fun x4 hx4 h => ?_
  refine Wp.seq ?_
  refine Wp.drawn2 (n0 := 6) [] mixed ?_
  refine GoD.qr rfl rfl (QEx.ldP (Vec.cells a) (Vec.av a) rfl ag24 ts24 (.tmp rfl) (le_b rfl) rfl) rfl (lt_b rfl) ?_
  refine GoD.q rfl (QEx.cal0 (r := (Vec.av r1)) [(Vec.av a)] rfl Try.call56 (.cons (.tmp rfl) .nil) (vec2_saturate_ok hr1) rfl rfl) rfl (lt_b rfl) ?_
  refine GoD.qr rfl rfl (QEx.ldP (Vec.cells b) (Vec.av b) rfl ag24 ts24 (.tmp rfl) (le_b rfl) rfl) rfl (lt_b rfl) ?_
  refine GoD.q rfl (QEx.cal0 (r := (Vec.av r2)) [(Vec.av b)] rfl Try.call56 (.cons (.tmp rfl) .nil) (vec2_saturate_ok hr2) rfl rfl) rfl (lt_b rfl) ?_
  refine GoD.s rfl (Z := (Vec.cells x3)) rfl rfl ts24 (.tmp rfl) rfl (.tmp rfl) rfl rfl (le_b rfl) (congrArg (fun (x : Vec) => (Vec.cells x)) hx3) ?_
  refine GoD.s rfl (Z := (Vec.cells x4)) rfl rfl ts24 (.tmp rfl) rfl (.tmp rfl) rfl rfl (le_b rfl) (congrArg (fun (x : Vec) => (Vec.cells x)) hx4) ?_
  refine GoD.nil ⟨by kernel_rfl, by kernel_rfl, by kernel_rfl, by kernel_rfl, by kernel_rfl, ?_⟩
  refine GoT.nil ?_
  refine bind_e h fun r5 hr5 h => ?_
  refine Wp.seq ?_
  refine Wp.region ?_
  refine GoT.q rfl (QEx.fldP 0 rfl Try.underlying24 rfl ts3 rfl (.tmp rfl) rfl) rfl (lt_b rfl) ?_
  refine GoT.qr rfl rfl (QEx.ldP1 (Vec.cells x3) (iAV x3.X) rfl ag3 (.tmp rfl) rfl) rfl (lt_b rfl) ?_
  refine GoT.q rfl (QEx.fldP 1 rfl Try.underlying24 rfl ts3 rfl (.tmp rfl) rfl) rfl (lt_b rfl) ?_
  refine GoT.qr rfl rfl (QEx.ldP1 (Vec.cells x4) (iAV x4.Y) rfl ag3 (.tmp rfl) rfl) rfl (lt_b rfl) ?_
  refine GoT.q rfl (QEx.mulK rfl (.tmp rfl) (.tmp rfl)) rfl (lt_b rfl) ?_
  refine GoT.q rfl (QEx.fldP 1 rfl Try.underlying24 rfl ts3 rfl (.tmp rfl) rfl) rfl (lt_b rfl) ?_
  refine GoT.qr rfl rfl (QEx.ldP1 (Vec.cells x3) (iAV x3.Y) rfl ag3 (.tmp rfl) rfl) rfl (lt_b rfl) ?_
  refine GoT.q rfl (QEx.fldP 0 rfl Try.underlying24 rfl ts3 rfl (.tmp rfl) rfl) rfl (lt_b rfl) ?_
  refine GoT.qr rfl rfl (QEx.ldP1 (Vec.cells x4) (iAV x4.X) rfl ag3 (.tmp rfl) rfl) rfl (lt_b rfl) ?_
  refine GoT.q rfl (QEx.mulK rfl (.tmp rfl) (.tmp rfl)) rfl (lt_b rfl) ?_
  refine GoT.q rfl (QEx.subK rfl (.tmp rfl) (.tmp rfl)) rfl (lt_b rfl) ?_
  refine GoT.q rfl (QEx.cal0 (r := (iAV r5)) [(iAV (w64 ((w64 (x3.X * x4.Y)) - (w64 (x3.Y * x4.X)))))] rfl Try.call57 (.cons (.tmp rfl) .nil) (vec2_product_ok hr5) rfl rfl) rfl (lt_b rfl) ?_
  refine GoT.q rfl (QEx.assign rfl (.tmp rfl)) rfl (lt_b rfl) ?_
  refine GoT.nil ?_
  refine Wp.ret ?_
  cases h
  exact LeafQ.ret [] (by decide) (.cons (.tmp rfl) .nil) rfl
theorem vec2_Dot_ok {a : Vec} {b : Vec} {r : Int} (h : vec2_Dot a b = some r) : FnR Try.prog 107 [(Vec.av a), (Vec.av b)] (iAV r) := by
  refine FnR.intro' (fn := Try.f107) (N := 21) Try.func107 rfl rfl (Nat.le_of_ble_eq_true rfl) [2, 3] ?_
  refine Wp.seq ?_
  refine Wp.region ?_
  refine GoT.a rfl (AEx.bx (Z := (Vec.cells a)) rfl (.tmp rfl) rfl rfl rfl rfl) rfl (lt_b rfl) ?_
  refine GoT.a rfl (AEx.bx (Z := (Vec.cells b)) rfl (.tmp rfl) rfl rfl rfl rfl) rfl (lt_b rfl) ?_
  refine GoT.q rfl (QEx.as (iAV 0) (QEx.assign rfl .con)) rfl (lt_b rfl) ?_
  refine GoT.nil ?_
  refine let_e h fun r1 hr1 h => ?_
  refine let_e h fun r2 hr2 h => ?_
  refine let_e h fun x3 hx3 h => ?_
  refine let_e h fun x4 hx4 h => ?_
  refine Wp.seq ?_
  refine Wp.drawn2 (n0 := 6) [] mixed ?_
  refine GoD.qr rfl rfl (QEx.ldP (Vec.cells a) (Vec.av a) rfl ag24 ts24 (.tmp rfl) (le_b rfl) rfl) rfl (lt_b rfl) ?_
  refine GoD.q rfl (QEx.cal0 (r := (Vec.av r1)) [(Vec.av a)] rfl Try.call56 (.cons (.tmp rfl) .nil) (vec2_saturate_ok hr1) rfl rfl) rfl (lt_b rfl) ?_
  refine GoD.qr rfl rfl (QEx.ldP (Vec.cells b) (Vec.av b) rfl ag24 ts24 (.tmp rfl) (le_b rfl) rfl) rfl (lt_b rfl) ?_
  refine GoD.q rfl (QEx.cal0 (r := (Vec.av r2)) [(Vec.av b)] rfl Try.call56 (.cons (.tmp rfl) .nil) (vec2_saturate_ok hr2) rfl rfl) rfl (lt_b rfl) ?_
  refine GoD.s rfl (Z := (Vec.cells x3)) rfl rfl ts24 (.tmp rfl) rfl (.tmp rfl) rfl rfl (le_b rfl) (congrArg (fun (x : Vec) => (Vec.cells x)) hx3) ?_
  refine GoD.s rfl (Z := (Vec.cells x4)) rfl rfl ts24 (.tmp rfl) rfl (.tmp rfl) rfl rfl (le_b rfl) (congrArg (fun (x : Vec) => (Vec.cells x)) hx4) ?_
  refine GoD.nil ⟨by kernel_rfl, by kernel_rfl, by kernel_rfl, by kernel_rfl, by kernel_rfl, ?_⟩
  refine GoT.nil ?_
  refine bind_e h fun r5 hr5 h => ?_
  refine Wp.seq ?_
  refine Wp.region ?_
  refine GoT.q rfl (QEx.fldP 0 rfl Try.underlying24 rfl ts3 rfl (.tmp rfl) rfl) rfl (lt_b rfl) ?_
  refine GoT.qr rfl rfl (QEx.ldP1 (Vec.cells x3) (iAV x3.X) rfl ag3 (.tmp rfl) rfl) rfl (lt_b rfl) ?_
  refine GoT.q rfl (QEx.fldP 0 rfl Try.underlying24 rfl ts3 rfl (.tmp rfl) rfl) rfl (lt_b rfl) ?_
  refine GoT.qr rfl rfl (QEx.ldP1 (Vec.cells x4) (iAV x4.X) rfl ag3 (.tmp rfl) rfl) rfl (lt_b rfl) ?_
  refine GoT.q rfl (QEx.mulK rfl (.tmp rfl) (.tmp rfl)) rfl (lt_b rfl) ?_
  refine GoT.q rfl (QEx.fldP 1 rfl Try.underlying24 rfl ts3 rfl (.tmp rfl) rfl) rfl (lt_b rfl) ?_
  refine GoT.qr rfl rfl (QEx.ldP1 (Vec.cells x3) (iAV x3.Y) rfl ag3 (.tmp rfl) rfl) rfl (lt_b rfl) ?_
  refine GoT.q rfl (QEx.fldP 1 rfl Try.underlying24 rfl ts3 rfl (.tmp rfl) rfl) rfl (lt_b rfl) ?_
  refine GoT.qr rfl rfl (QEx.ldP1 (Vec.cells x4) (iAV x4.Y) rfl ag3 (.tmp rfl) rfl) rfl (lt_b rfl) ?_
  refine GoT.q rfl (QEx.mulK rfl (.tmp rfl) (.tmp rfl)) rfl (lt_b rfl) ?_
  refine GoT.q rfl (QEx.addK rfl (.tmp rfl) (.tmp rfl)) rfl (lt_b rfl) ?_
  refine GoT.q rfl (QEx.cal0 (r := (iAV r5)) [(iAV (w64 ((w64 (x3.X * x4.X)) + (w64 (x3.Y * x4.Y)))))] rfl Try.call57 (.cons (.tmp rfl) .nil) (vec2_product_ok hr5) rfl rfl) rfl (lt_b rfl) ?_
  refine GoT.q rfl (QEx.assign rfl (.tmp rfl)) rfl (lt_b rfl) ?_
  refine GoT.nil ?_
  refine Wp.ret ?_
  cases h
  exact LeafQ.ret [] (by decide) (.cons (.tmp rfl) .nil) rfl
theorem massdata_ofPolygon_ok {s : Shape} {density : Int} {r : MassData} (h : massdata_ofPolygon s density = some r) : FnR Try.prog 104 [(Shape.av s), (iAV density)] (MassData.av r) := by
  refine FnR.intro' (fn := Try.f104) (N := 79) Try.func104 rfl rfl (Nat.le_of_ble_eq_true rfl) [2, 4, 6, 9, 11, 12] ?_
  refine Wp.seq ?_
  refine Wp.region ?_
  refine GoT.a rfl (AEx.bx (Z := (Shape.cells s)) rfl (.tmp rfl) rfl rfl rfl rfl) rfl (lt_b rfl) ?_
  refine GoT.a rfl (AEx.alZ rfl zt78 rfl rfl) rfl (lt_b rfl) ?_
  refine GoT.nil ?_
  refine bind_e h fun r1 hr1 h => ?_
  refine bind_e h fun r2 hr2 h => ?_
  refine bind_e h fun r3 hr3 h => ?_
  refine let_e h fun x4 hx4 h => ?_
  refine Wp.seq ?_
  refine Wp.drawn2 (n0 := 11) [9, 11, 12] mixed ?_
  refine GoD.q rfl (QEx.fldP 2 rfl Try.underlying37 rfl ts35 rfl (.tmp rfl) rfl) rfl (lt_b rfl) ?_
  refine GoD.qr rfl rfl (QEx.ldP1 (Shape.cells s) ((slAV 2 Vec.av) s.Vertices) rfl ag35 (.tmp rfl) rfl) rfl (lt_b rfl) ?_
  refine GoD.q rfl (QEx.cal0 (r := (iAV r1)) [((slAV 2 Vec.av) s.Vertices)] rfl Try.call84 (.cons (.tmp rfl) .nil) (polygon_Area_ok hr1) rfl rfl) rfl (lt_b rfl) ?_
  refine GoD.q rfl (QEx.move rfl (.tmp rfl)) rfl (lt_b rfl) ?_
  refine GoD.q rfl (QEx.cal0 (r := (iAV r2)) [(iAV r1), (iAV density)] rfl Try.call32 (.cons (.tmp rfl) (.cons (.tmp rfl) .nil)) (fixed_Mul_ok hr2) rfl rfl) rfl (lt_b rfl) ?_
  refine GoD.q rfl (QEx.fldP 2 rfl Try.underlying37 rfl ts35 rfl (.tmp rfl) rfl) rfl (lt_b rfl) ?_
  refine GoD.qr rfl rfl (QEx.ldP1 (Shape.cells s) ((slAV 2 Vec.av) s.Vertices) rfl ag35 (.tmp rfl) rfl) rfl (lt_b rfl) ?_
  refine GoD.q rfl (QEx.cal0 (r := (Vec.av r3)) [((slAV 2 Vec.av) s.Vertices)] rfl Try.call109 (.cons (.tmp rfl) .nil) (polygon_Centroid_ok hr3) rfl rfl) rfl (lt_b rfl) ?_
  refine GoD.al rfl rfl zt24 rfl (lt_b rfl) ?_
  refine GoD.q rfl (QEx.assign rfl (.tmp rfl)) rfl (lt_b rfl) ?_
  refine GoD.s rfl (Z := (Vec.cells x4)) rfl rfl ts24 (.tmp rfl) rfl (.tmp rfl) rfl rfl (le_b rfl) (congrArg (fun (x : Vec) => (Vec.cells x)) hx4) ?_
  refine GoD.nil ⟨by kernel_rfl, by kernel_rfl, by kernel_rfl, by kernel_rfl, by kernel_rfl, ?_⟩
  refine GoT.nil ?_
  refine Wp.seq ?_
  refine Wp.region ?_
  refine GoT.q rfl (QEx.as (iAV 0) (QEx.assign rfl .con)) rfl (lt_b rfl) ?_
  refine GoT.q rfl (QEx.as (iAV 0) (QEx.assign rfl .con)) rfl (lt_b rfl) ?_
  refine GoT.nil ?_
  refine chk_e h fun c5 h => ?_
  refine let_e h fun r6 hr6 h => ?_
  refine let_e h fun x7 hx7 h => ?_
  refine Wp.seq ?_
  refine Wp.drawn2 (n0 := 12) [11, 12] mixed ?_
  refine GoD.q rfl (QEx.fldP 2 rfl Try.underlying37 rfl ts35 rfl (.tmp rfl) rfl) rfl (lt_b rfl) ?_
  refine GoD.qr rfl rfl (QEx.ldP1 (Shape.cells s) ((slAV 2 Vec.av) s.Vertices) rfl ag35 (.tmp rfl) rfl) rfl (lt_b rfl) ?_
  refine GoD.q rfl (QEx.fldP 2 rfl Try.underlying37 rfl ts35 rfl (.tmp rfl) rfl) rfl (lt_b rfl) ?_
  refine GoD.qr rfl rfl (QEx.ldP1 (Shape.cells s) ((slAV 2 Vec.av) s.Vertices) rfl ag35 (.tmp rfl) rfl) rfl (lt_b rfl) ?_
  refine GoD.q rfl (QEx.lenL rfl ⟨_, Try.underlying35⟩ (.tmp rfl)) rfl (lt_b rfl) ?_
  refine GoD.q rfl (QEx.subK rfl (.tmp rfl) .con) rfl (lt_b rfl) ?_
  refine GoD.q rfl (QEx.as (.cptr (Vec.cells (ix s.Vertices (w64 (((s.Vertices).length : Int) - 1))))) (QEx.idxL (E := Vec.av) rfl et35 (.tmp rfl) (.tmp rfl) c5)) rfl (lt_b rfl) ?_
  refine GoD.q rfl (QEx.ldC (x := (Vec.av (ix s.Vertices (w64 (((s.Vertices).length : Int) - 1))))) rfl ag24 ts24 (.tmp rfl) (.inl ⟨rfl, rfl, rfl⟩)) rfl (lt_b rfl) ?_
  refine GoD.qr rfl rfl (QEx.ldP (Vec.cells x4) (Vec.av x4) rfl ag24 ts24 (.tmp rfl) (le_b rfl) rfl) rfl (lt_b rfl) ?_
  refine GoD.q rfl (QEx.cal0 (r := (Vec.av r6)) [(Vec.av (ix s.Vertices (w64 (((s.Vertices).length : Int) - 1)))), (Vec.av x4)] rfl Try.call28 (.cons (.tmp rfl) (.cons (.tmp rfl) .nil)) (vec2_Sub_ok hr6) rfl rfl) rfl (lt_b rfl) ?_
  refine GoD.al rfl rfl zt24 rfl (lt_b rfl) ?_
  refine GoD.s rfl (Z := (Vec.cells x7)) rfl rfl ts24 (.tmp rfl) rfl (.tmp rfl) rfl rfl (le_b rfl) (congrArg (fun (x : Vec) => (Vec.cells x)) hx7) ?_
  refine GoD.nil ⟨by kernel_rfl, by kernel_rfl, by kernel_rfl, by kernel_rfl, by kernel_rfl, ?_⟩
  refine GoT.nil ?_
  refine Wp.join2 (fun v8 v9 => ⟨[(4, (.ptr 4 0)), (5, (iAV r2)), (6, (.ptr 6 0)), (7, (iAV v8)), (8, (iAV v9))], [(4, .cells (MassData.cells MassData.zero)), (6, .cells (Vec.cells x4))], [2, 9, 11, 12]⟩) (fun v8 v9 => (massdata_ofPolygon_j2 r2 x4) v8 v9 = some r) ?_ ?_
  · intro v8 v9 h
    refine Wp.seq ?_
    refine Wp.seq ?_
    refine Wp.region ?_
    refine GoT.q rfl (QEx.move rfl (.tmp rfl)) rfl (lt_b rfl) ?_
    refine GoT.q rfl (QEx.lssK rfl (.tmp rfl) .con) rfl (lt_b rfl) ?_
    refine GoT.nil ?_
    refine Wp.condS h rfl (fun h => ?_) (fun h => ?_)
    · refine let_e h fun x26 hx26 h => ?_
      refine Wp.seq ?_
      refine Wp.region ?_
      refine GoT.q rfl (QEx.move rfl (.tmp rfl)) rfl (lt_b rfl) ?_
      refine GoT.qr rfl rfl (QEx.ldP (Vec.cells x4) (Vec.av x4) rfl ag24 ts24 (.tmp rfl) (le_b rfl) rfl) rfl (lt_b rfl) ?_
      refine GoT.q rfl (QEx.as (MassData.av (⟨r2, x4, 0⟩ : MassData)) (QEx.buildZ rfl Try.underlying78 zt78 (by kernel_rfl) (.cons rfl (.tmp rfl) rfl rfl (le_b rfl) (.cons rfl (.tmp rfl) rfl rfl (le_b rfl) .nil)))) rfl (lt_b rfl) ?_
      refine GoT.s rfl (AEx.sto (Z := (MassData.cells x26)) rfl rfl ts78 (.tmp rfl) rfl (.tmp rfl) rfl rfl (le_b rfl) (congrArg (fun (x : MassData) => (MassData.cells x)) hx26)) rfl ?_
      refine GoT.nil ?_
      refine Wp.ret ?_
      cases h
      exact LeafQ.ret [] (by decide) (.cons (.agg rfl rfl ag78 ts78) .nil) rfl
    · refine Wp.skip ?_
      refine bind_e h fun r27 hr27 h => ?_
      refine bind_e h fun r28 hr28 h => ?_
      refine bind_e h fun r29 hr29 h => ?_
      refine let_e h fun x30 hx30 h => ?_
      refine Wp.seq ?_
      refine Wp.drawn2 (n0 := 10) [2, 9, 11, 12] mixed ?_
      refine GoD.q rfl (QEx.move rfl (.tmp rfl)) rfl (lt_b rfl) ?_
      refine GoD.qr rfl rfl (QEx.ldP (Vec.cells x4) (Vec.av x4) rfl ag24 ts24 (.tmp rfl) (le_b rfl) rfl) rfl (lt_b rfl) ?_
      refine GoD.q rfl (QEx.move rfl (.tmp rfl)) rfl (lt_b rfl) ?_
      refine GoD.q rfl (QEx.move rfl (.tmp rfl)) rfl (lt_b rfl) ?_
      refine GoD.q rfl (QEx.move rfl (.tmp rfl)) rfl (lt_b rfl) ?_
      refine GoD.q rfl (QEx.cal0 (r := (iAV r27)) [(iAV v8), (iAV v9)] rfl Try.call55 (.cons (.tmp rfl) (.cons (.tmp rfl) .nil)) (fixed_RoundDiv_ok hr27) rfl rfl) rfl (lt_b rfl) ?_
      refine GoD.q rfl (QEx.cal0 (r := (iAV r28)) [(iAV r27), (iAV 6)] rfl Try.call55 (.cons (.tmp rfl) (.cons .con .nil)) (fixed_RoundDiv_ok hr28) rfl rfl) rfl (lt_b rfl) ?_
      refine GoD.q rfl (QEx.cal0 (r := (iAV r29)) [(iAV r2), (iAV r28)] rfl Try.call32 (.cons (.tmp rfl) (.cons (.tmp rfl) .nil)) (fixed_Mul_ok hr29) rfl rfl) rfl (lt_b rfl) ?_
      refine GoD.q rfl (QEx.as (MassData.av (⟨r2, x4, r29⟩ : MassData)) (QEx.buildZ rfl Try.underlying78 zt78 (by kernel_rfl) (.cons rfl (.tmp rfl) rfl rfl (le_b rfl) (.cons rfl (.tmp rfl) rfl rfl (le_b rfl) (.cons rfl (.tmp rfl) rfl rfl (le_b rfl) .nil))))) rfl (lt_b rfl) ?_
      refine GoD.s rfl (Z := (MassData.cells x30)) rfl rfl ts78 (.tmp rfl) rfl (.tmp rfl) rfl rfl (le_b rfl) (congrArg (fun (x : MassData) => (MassData.cells x)) hx30) ?_
      refine GoD.nil ⟨by kernel_rfl, by kernel_rfl, by kernel_rfl, by kernel_rfl, by kernel_rfl, ?_⟩
      refine GoT.nil ?_
      refine Wp.ret ?_
      cases h
      exact LeafQ.ret [] (by decide) (.cons (.agg rfl rfl ag78 ts78) .nil) rfl
  · refine Wp.seq ?_
    refine Wp.region ?_
    refine GoT.q rfl (QEx.fldP 2 rfl Try.underlying37 rfl ts35 rfl (.tmp rfl) rfl) rfl (lt_b rfl) ?_
    refine GoT.qr rfl rfl (QEx.ldP1 (Shape.cells s) ((slAV 2 Vec.av) s.Vertices) rfl ag35 (.tmp rfl) rfl) rfl (lt_b rfl) ?_
    refine GoT.q rfl (QEx.lenL rfl ⟨_, Try.underlying35⟩ (.tmp rfl)) rfl (lt_b rfl) ?_
    refine GoT.q rfl (QEx.as (iAV 0) (QEx.move rfl .con)) rfl (lt_b rfl) ?_
    refine GoT.nil ?_
    refine Wp.block ?_
    refine Wp.loop4 (fun v10 v11 v12 v13 => ⟨[(4, (.ptr 4 0)), (5, (iAV r2)), (6, (.ptr 6 0)), (7, (iAV v10)), (8, (iAV v11)), (9, (.ptr 9 0)), (33, ((slAV 2 Vec.av) s.Vertices)), (34, (iAV ((s.Vertices).length : Int))), (35, (iAV v12))], [(4, .cells (MassData.cells MassData.zero)), (6, .cells (Vec.cells x4)), (9, .cells (Vec.cells v13))], [2, 11, 12]⟩) (fun n v10 v11 v12 v13 => massdata_ofPolygon_l1 s x4 (massdata_ofPolygon_j2 r2 x4) n v10 v11 v12 v13 = some r) fuel 0 0 0 x7 [2] [] h (LS.to.mk (.r rfl rfl (.b rfl rfl (.r rfl rfl (.b rfl rfl (.b rfl rfl (.r rfl rfl (.b rfl rfl (.b rfl rfl (.b rfl rfl .n))))))))) (.b rfl rfl rfl (.b rfl rfl rfl (.b rfl rfl rfl .n))) rfl) ?_
    rintro (_ | n2) v10 v11 v12 v13 h
    · exact none_e h
    rw [massdata_ofPolygon_l1] at h
    refine Wp.seq ?_
    refine Wp.region ?_
    refine GoT.q rfl (QEx.lssK rfl (.tmp rfl) (.tmp rfl)) rfl (lt_b rfl) ?_
    refine GoT.nil ?_
    refine Wp.seq ?_
    refine Wp.condS h rfl (fun h => ?_) (fun h => ?_)
    · refine Wp.skip ?_
      refine Wp.seq ?_
      refine Wp.block ?_
      refine chk_e h fun c14 h => ?_
      refine let_e h fun x15 hx15 h => ?_
      refine Wp.seq ?_
      refine Wp.region ?_
      refine GoT.q rfl (QEx.as (.cptr (Vec.cells (ix s.Vertices v12))) (QEx.idxL (E := Vec.av) rfl et35 (.tmp rfl) (.tmp rfl) c14)) rfl (lt_b rfl) ?_
      refine GoT.q rfl (QEx.ldC (x := (Vec.av (ix s.Vertices v12))) rfl ag24 ts24 (.tmp rfl) (.inl ⟨rfl, rfl, rfl⟩)) rfl (lt_b rfl) ?_
      refine GoT.a rfl (AEx.alZ rfl zt24 rfl rfl) rfl (lt_b rfl) ?_
      refine GoT.s rfl (AEx.sto (Z := (Vec.cells x15)) rfl rfl ts24 (.tmp rfl) rfl (.tmp rfl) rfl rfl (le_b rfl) (congrArg (fun (x : Vec) => (Vec.cells x)) hx15)) rfl ?_
      refine GoT.nil ?_
      refine let_e h fun r16 hr16 h => ?_
      refine let_e h fun x17 hx17 h => ?_
      refine Wp.seq ?_
      refine Wp.region ?_
      refine GoT.qr rfl rfl (QEx.ldP (Vec.cells x15) (Vec.av x15) rfl ag24 ts24 (.tmp rfl) (le_b rfl) rfl) rfl (lt_b rfl) ?_
      refine GoT.qr rfl rfl (QEx.ldP (Vec.cells x4) (Vec.av x4) rfl ag24 ts24 (.tmp rfl) (le_b rfl) rfl) rfl (lt_b rfl) ?_
      refine GoT.q rfl (QEx.cal0 (r := (Vec.av r16)) [(Vec.av x15), (Vec.av x4)] rfl Try.call28 (.cons (.tmp rfl) (.cons (.tmp rfl) .nil)) (vec2_Sub_ok hr16) rfl rfl) rfl (lt_b rfl) ?_
      refine GoT.a rfl (AEx.alZ rfl zt24 rfl rfl) rfl (lt_b rfl) ?_
      refine GoT.s rfl (AEx.sto (Z := (Vec.cells x17)) rfl rfl ts24 (.tmp rfl) rfl (.tmp rfl) rfl rfl (le_b rfl) (congrArg (fun (x : Vec) => (Vec.cells x)) hx17)) rfl ?_
      refine GoT.nil ?_
      refine bind_e h fun r18 hr18 h => ?_
      refine Wp.seq ?_
      refine Wp.region ?_
      refine GoT.qr rfl rfl (QEx.ldP (Vec.cells v13) (Vec.av v13) rfl ag24 ts24 (.tmp rfl) (le_b rfl) rfl) rfl (lt_b rfl) ?_
      refine GoT.qr rfl rfl (QEx.ldP (Vec.cells x17) (Vec.av x17) rfl ag24 ts24 (.tmp rfl) (le_b rfl) rfl) rfl (lt_b rfl) ?_
      refine GoT.q rfl (QEx.cal0 (r := (iAV r18)) [(Vec.av v13), (Vec.av x17)] rfl Try.call33 (.cons (.tmp rfl) (.cons (.tmp rfl) .nil)) (vec2_Cross_ok hr18) rfl rfl) rfl (lt_b rfl) ?_
      refine GoT.q rfl (QEx.assign rfl (.tmp rfl)) rfl (lt_b rfl) ?_
      refine GoT.nil ?_
      refine bind_e h fun r19 hr19 h => ?_
      refine bind_e h fun r20 hr20 h => ?_
      refine bind_e h fun r21 hr21 h => ?_
      refine let_e h fun x22 hx22 h => ?_
      refine Wp.seq ?_
      refine Wp.drawn2 (n0 := 16) [2] mixed ?_
      refine GoD.q rfl (QEx.move rfl (.tmp rfl)) rfl (lt_b rfl) ?_
      refine GoD.q rfl (QEx.move rfl (.tmp rfl)) rfl (lt_b rfl) ?_
      refine GoD.qr rfl rfl (QEx.ldP (Vec.cells v13) (Vec.av v13) rfl ag24 ts24 (.tmp rfl) (le_b rfl) rfl) rfl (lt_b rfl) ?_
      refine GoD.qr rfl rfl (QEx.ldP (Vec.cells v13) (Vec.av v13) rfl ag24 ts24 (.tmp rfl) (le_b rfl) rfl) rfl (lt_b rfl) ?_
      refine GoD.q rfl (QEx.cal0 (r := (iAV r19)) [(Vec.av v13), (Vec.av v13)] rfl Try.call107 (.cons (.tmp rfl) (.cons (.tmp rfl) .nil)) (vec2_Dot_ok hr19) rfl rfl) rfl (lt_b rfl) ?_
      refine GoD.qr rfl rfl (QEx.ldP (Vec.cells v13) (Vec.av v13) rfl ag24 ts24 (.tmp rfl) (le_b rfl) rfl) rfl (lt_b rfl) ?_
      refine GoD.qr rfl rfl (QEx.ldP (Vec.cells x17) (Vec.av x17) rfl ag24 ts24 (.tmp rfl) (le_b rfl) rfl) rfl (lt_b rfl) ?_
      refine GoD.q rfl (QEx.cal0 (r := (iAV r20)) [(Vec.av v13), (Vec.av x17)] rfl Try.call107 (.cons (.tmp rfl) (.cons (.tmp rfl) .nil)) (vec2_Dot_ok hr20) rfl rfl) rfl (lt_b rfl) ?_
      refine GoD.q rfl (QEx.addK rfl (.tmp rfl) (.tmp rfl)) rfl (lt_b rfl) ?_
      refine GoD.qr rfl rfl (QEx.ldP (Vec.cells x17) (Vec.av x17) rfl ag24 ts24 (.tmp rfl) (le_b rfl) rfl) rfl (lt_b rfl) ?_
      refine GoD.qr rfl rfl (QEx.ldP (Vec.cells x17) (Vec.av x17) rfl ag24 ts24 (.tmp rfl) (le_b rfl) rfl) rfl (lt_b rfl) ?_
      refine GoD.q rfl (QEx.cal0 (r := (iAV r21)) [(Vec.av x17), (Vec.av x17)] rfl Try.call107 (.cons (.tmp rfl) (.cons (.tmp rfl) .nil)) (vec2_Dot_ok hr21) rfl rfl) rfl (lt_b rfl) ?_
      refine GoD.q rfl (QEx.addK rfl (.tmp rfl) (.tmp rfl)) rfl (lt_b rfl) ?_
      refine GoD.q rfl (QEx.mulK rfl (.tmp rfl) (.tmp rfl)) rfl (lt_b rfl) ?_
      refine GoD.q rfl (QEx.addK rfl (.tmp rfl) (.tmp rfl)) rfl (lt_b rfl) ?_
      refine GoD.q rfl (QEx.eq (QEx.assign rfl (.tmp rfl)) (congrArg iAV hx22)) rfl (lt_b rfl) ?_
      refine GoD.nil ⟨by kernel_rfl, by kernel_rfl, by kernel_rfl, by kernel_rfl, by kernel_rfl, ?_⟩
      refine GoT.nil ?_
      refine let_e h fun x23 hx23 h => ?_
      refine Wp.seq ?_
      refine Wp.region ?_
      refine GoT.q rfl (QEx.move rfl (.tmp rfl)) rfl (lt_b rfl) ?_
      refine GoT.q rfl (QEx.move rfl (.tmp rfl)) rfl (lt_b rfl) ?_
      refine GoT.q rfl (QEx.addK rfl (.tmp rfl) (.tmp rfl)) rfl (lt_b rfl) ?_
      refine GoT.q rfl (QEx.eq (QEx.assign rfl (.tmp rfl)) (congrArg iAV hx23)) rfl (lt_b rfl) ?_
      refine GoT.nil ?_
      refine let_e h fun x24 hx24 h => ?_
      refine Wp.region ?_
      refine GoT.qr rfl rfl (QEx.ldP (Vec.cells x17) (Vec.av x17) rfl ag24 ts24 (.tmp rfl) (le_b rfl) rfl) rfl (lt_b rfl) ?_
      refine GoT.s rfl (AEx.sto (Z := (Vec.cells x24)) rfl rfl ts24 (.tmp rfl) rfl (.tmp rfl) rfl rfl (le_b rfl) (congrArg (fun (x : Vec) => (Vec.cells x)) hx24)) rfl ?_
      refine GoT.nil ?_
      refine let_e h fun x25 hx25 h => ?_
      refine Wp.region ?_
      refine GoT.q rfl (QEx.addK rfl (.tmp rfl) .con) rfl (lt_b rfl) ?_
      refine GoT.q rfl (QEx.eq (QEx.move rfl (.tmp rfl)) (congrArg iAV hx25)) rfl (lt_b rfl) ?_
      refine GoT.nil ?_
      exact Round4.mk x22 x23 x25 x24 [11, 12] [] h (LS.to.mk (.r rfl rfl (.b rfl rfl (.r rfl rfl (.b rfl rfl (.b rfl rfl (.r rfl rfl (.b rfl rfl (.b rfl rfl (.b rfl rfl .n))))))))) (.b rfl rfl rfl (.b rfl rfl rfl (.b rfl rfl rfl .n))) rfl)
    · refine Wp.exit ?_
      exact Joined2.mk v10 v11 [9] [] h (LS.to.mk (.r rfl rfl (.b rfl rfl (.r rfl rfl (.b rfl rfl (.b rfl rfl .n))))) (.b rfl rfl rfl (.b rfl rfl rfl .n)) rfl)
theorem massdata_OfShape_ok {s : Shape} {density : Int} {r : MassData} (h : massdata_OfShape s density = some r) : FnR Try.prog 93 [(Shape.av s), (iAV density)] (MassData.av r) := by
  refine FnR.intro' (fn := Try.f93) (N := 32) Try.func93 rfl rfl (Nat.le_of_ble_eq_true rfl) [2, 4] ?_
  refine Wp.seq ?_
  refine Wp.region ?_
  refine GoT.a rfl (AEx.bx (Z := (Shape.cells s)) rfl (.tmp rfl) rfl rfl rfl rfl) rfl (lt_b rfl) ?_
  refine GoT.a rfl (AEx.alZ rfl zt78 rfl rfl) rfl (lt_b rfl) ?_
  refine GoT.nil ?_
  refine Wp.seq ?_
  refine bind_e h fun r1 hr1 h => ?_
  refine Wp.seq ?_
  refine Wp.region ?_
  refine GoT.qr rfl rfl (QEx.ldP (Shape.cells s) (Shape.av s) rfl ag37 ts37 (.tmp rfl) (le_b rfl) rfl) rfl (lt_b rfl) ?_
  refine GoT.q rfl (QEx.cal0 (r := (iAV r1)) [(Shape.av s)] rfl Try.call61 (.cons (.tmp rfl) .nil) (shape_Validate_ok hr1) rfl rfl) rfl (lt_b rfl) ?_
  refine GoT.q rfl (QEx.neqK rfl (.tmp rfl) .con) rfl (lt_b rfl) ?_
  refine GoT.q rfl (QEx.move rfl (.tmp rfl)) rfl (lt_b rfl) ?_
  refine GoT.g rfl rfl rfl (fun hg => QEx.move rfl (.tmp rfl)) rfl (lt_b rfl) ?_
  refine GoT.g rfl rfl rfl (fun hg => QEx.lssK rfl (.opt (.tmp rfl) hg) .con) rfl (lt_b rfl) ?_
  refine GoT.q rfl (QEx.pickK rfl (.tmp rfl) (fun hp => .con) (fun hp => (.opt (.tmp rfl) (beq_f hp)))) rfl (lt_b rfl) ?_
  refine GoT.q rfl (QEx.move rfl (.tmp rfl)) rfl (lt_b rfl) ?_
  refine GoT.g rfl rfl rfl (fun hg => QEx.move rfl (.tmp rfl)) rfl (lt_b rfl) ?_
  refine GoT.g rfl rfl rfl (fun hg => QEx.gtrK rfl (.opt (.tmp rfl) hg) .con) rfl (lt_b rfl) ?_
  refine GoT.q rfl (QEx.pickK rfl (.tmp rfl) (fun hp => .con) (fun hp => (.opt (.tmp rfl) (beq_f hp)))) rfl (lt_b rfl) ?_
  refine GoT.nil ?_
  refine Wp.condS h rfl (fun h => ?_) (fun h => ?_)
  · refine let_e h fun x2 hx2 h => ?_
    refine Wp.seq ?_
    refine Wp.region ?_
    refine GoT.q rfl (QEx.as (MassData.av (⟨0, Vec.zero, 0⟩ : MassData)) (QEx.buildZ rfl Try.underlying78 zt78 (by kernel_rfl) .nil)) rfl (lt_b rfl) ?_
    refine GoT.s rfl (AEx.sto (Z := (MassData.cells x2)) rfl rfl ts78 (.tmp rfl) rfl (.tmp rfl) rfl rfl (le_b rfl) (congrArg (fun (x : MassData) => (MassData.cells x)) hx2)) rfl ?_
    refine GoT.nil ?_
    refine Wp.ret ?_
    cases h
    exact LeafQ.ret [] (by decide) (.cons (.agg rfl rfl ag78 ts78) .nil) rfl
  · refine Wp.skip ?_
    refine Wp.seq ?_
    refine Wp.seq ?_
    refine Wp.region ?_
    refine GoT.q rfl (QEx.fldP 0 rfl Try.underlying37 rfl ts34 rfl (.tmp rfl) rfl) rfl (lt_b rfl) ?_
    refine GoT.qr rfl rfl (QEx.ldP1 (Shape.cells s) (iAV s.Kind) rfl ag34 (.tmp rfl) rfl) rfl (lt_b rfl) ?_
    refine GoT.nil ?_
    refine Wp.block ?_
    refine let_e h fun x3 hx3 h => ?_
    refine Wp.seq ?_
    refine Wp.region ?_
    refine GoT.q rfl (QEx.eqlK rfl (.tmp rfl) .con) rfl (lt_b rfl) ?_
    refine GoT.q rfl (QEx.eq (QEx.assign rfl (.tmp rfl)) (congrArg boolAV hx3)) rfl (lt_b rfl) ?_
    refine GoT.nil ?_
    refine Wp.condS h rfl (fun h => ?_) (fun h => ?_)
    · refine bind_e h fun r4 hr4 h => ?_
      refine let_e h fun x5 hx5 h => ?_
      refine Wp.seq ?_
      refine Wp.region ?_
      refine GoT.qr rfl rfl (QEx.ldP (Shape.cells s) (Shape.av s) rfl ag37 ts37 (.tmp rfl) (le_b rfl) rfl) rfl (lt_b rfl) ?_
      refine GoT.q rfl (QEx.move rfl (.tmp rfl)) rfl (lt_b rfl) ?_
      refine GoT.q rfl (QEx.cal0 (r := (MassData.av r4)) [(Shape.av s), (iAV density)] rfl Try.call102 (.cons (.tmp rfl) (.cons (.tmp rfl) .nil)) (massdata_ofCircle_ok hr4) rfl rfl) rfl (lt_b rfl) ?_
      refine GoT.s rfl (AEx.sto (Z := (MassData.cells x5)) rfl rfl ts78 (.tmp rfl) rfl (.tmp rfl) rfl rfl (le_b rfl) (congrArg (fun (x : MassData) => (MassData.cells x)) hx5)) rfl ?_
      refine GoT.nil ?_
      refine Wp.ret ?_
      cases h
      exact LeafQ.ret [] (by decide) (.cons (.agg rfl rfl ag78 ts78) .nil) rfl
    · refine let_e h fun x6 hx6 h => ?_
      refine Wp.seq ?_
      refine Wp.region ?_
      refine GoT.q rfl (QEx.eqlK rfl (.tmp rfl) .con) rfl (lt_b rfl) ?_
      refine GoT.q rfl (QEx.eq (QEx.assign rfl (.tmp rfl)) (congrArg boolAV hx6)) rfl (lt_b rfl) ?_
      refine GoT.nil ?_
      refine Wp.condS h rfl (fun h => ?_) (fun h => ?_)
      · refine bind_e h fun r7 hr7 h => ?_
        refine let_e h fun x8 hx8 h => ?_
        refine Wp.seq ?_
        refine Wp.region ?_
        refine GoT.qr rfl rfl (QEx.ldP (Shape.cells s) (Shape.av s) rfl ag37 ts37 (.tmp rfl) (le_b rfl) rfl) rfl (lt_b rfl) ?_
        refine GoT.q rfl (QEx.move rfl (.tmp rfl)) rfl (lt_b rfl) ?_
        refine GoT.q rfl (QEx.cal0 (r := (MassData.av r7)) [(Shape.av s), (iAV density)] rfl Try.call103 (.cons (.tmp rfl) (.cons (.tmp rfl) .nil)) (massdata_ofCapsule_ok hr7) rfl rfl) rfl (lt_b rfl) ?_
        refine GoT.s rfl (AEx.sto (Z := (MassData.cells x8)) rfl rfl ts78 (.tmp rfl) rfl (.tmp rfl) rfl rfl (le_b rfl) (congrArg (fun (x : MassData) => (MassData.cells x)) hx8)) rfl ?_
        refine GoT.nil ?_
        refine Wp.ret ?_
        cases h
        exact LeafQ.ret [] (by decide) (.cons (.agg rfl rfl ag78 ts78) .nil) rfl
      · refine Wp.skip ?_
        refine bind_e h fun r9 hr9 h => ?_
        refine let_e h fun x10 hx10 h => ?_
        refine Wp.seq ?_
        refine Wp.region ?_
        refine GoT.qr rfl rfl (QEx.ldP (Shape.cells s) (Shape.av s) rfl ag37 ts37 (.tmp rfl) (le_b rfl) rfl) rfl (lt_b rfl) ?_
        refine GoT.q rfl (QEx.move rfl (.tmp rfl)) rfl (lt_b rfl) ?_
        refine GoT.q rfl (QEx.cal0 (r := (MassData.av r9)) [(Shape.av s), (iAV density)] rfl Try.call104 (.cons (.tmp rfl) (.cons (.tmp rfl) .nil)) (massdata_ofPolygon_ok hr9) rfl rfl) rfl (lt_b rfl) ?_
        refine GoT.s rfl (AEx.sto (Z := (MassData.cells x10)) rfl rfl ts78 (.tmp rfl) rfl (.tmp rfl) rfl rfl (le_b rfl) (congrArg (fun (x : MassData) => (MassData.cells x)) hx10)) rfl ?_
        refine GoT.nil ?_
        refine Wp.ret ?_
        cases h
        exact LeafQ.ret [] (by decide) (.cons (.agg rfl rfl ag78 ts78) .nil) rfl
theorem slices_IndexFunc_MassData_ok {s : List MassData} {f : MassData → Option Bool} {fid_1 : Nat} {caps_1 : List AV} (cf_1 : CloR Try.prog fid_1 caps_1 (fun x : MassData => [(MassData.av x)]) boolAV f) {r : Int} (h : slices_IndexFunc_MassData s f = some r) : FnR Try.prog 110 [((slAV 4 MassData.av) s), (.clo fid_1 caps_1)] (iAV r) := by
  refine FnR.intro' (fn := Try.f110) (N := 19) Try.func110 rfl rfl (Nat.le_of_ble_eq_true rfl) [6, 12] ?_
  refine Wp.seq ?_
  refine Wp.region ?_
  refine GoT.q rfl (QEx.as (iAV 0) (QEx.assign rfl .con)) rfl (lt_b rfl) ?_
  refine GoT.nil ?_
  refine Wp.join0 (⟨[], [], [6, 12]⟩) (slices_IndexFunc_MassData_j2 = some r) ?_ ?_
  · intro h
    refine Wp.seq ?_
    refine Wp.region ?_
    refine GoT.q rfl (QEx.as (iAV (-1)) (QEx.assign rfl .con)) rfl (lt_b rfl) ?_
    refine GoT.nil ?_
    refine Wp.ret ?_
    cases h
    exact LeafQ.ret [] (by decide) (.cons (.tmp rfl) .nil) rfl
  · refine Wp.seq ?_
    refine Wp.region ?_
    refine GoT.q rfl (QEx.move rfl (.tmp rfl)) rfl (lt_b rfl) ?_
    refine GoT.q rfl (QEx.lenL rfl ⟨_, Try.underlying114⟩ (.tmp rfl)) rfl (lt_b rfl) ?_
    refine GoT.q rfl (QEx.as (iAV 0) (QEx.move rfl .con)) rfl (lt_b rfl) ?_
    refine GoT.nil ?_
    refine Wp.block ?_
    refine Wp.loop1 (fun v1 => ⟨[(0, ((slAV 4 MassData.av) s)), (1, (.clo fid_1 caps_1)), (7, (iAV ((s).length : Int))), (8, (iAV v1))], [], [6, 12]⟩) (fun n v1 => slices_IndexFunc_MassData_l1 s f slices_IndexFunc_MassData_j2 n v1 = some r) fuel 0 [] [] h (LS.to.mk (.b rfl rfl (.b rfl rfl (.b rfl rfl (.b rfl rfl .n)))) .n rfl) ?_
    rintro (_ | n2) v1 h
    · exact none_e h
    rw [slices_IndexFunc_MassData_l1] at h
    refine Wp.seq ?_
    refine Wp.region ?_
    refine GoT.q rfl (QEx.lssK rfl (.tmp rfl) (.tmp rfl)) rfl (lt_b rfl) ?_
    refine GoT.nil ?_
    refine Wp.seq ?_
    refine Wp.condS h rfl (fun h => ?_) (fun h => ?_)
    · refine Wp.skip ?_
      refine Wp.seq ?_
      refine Wp.block ?_
      refine Wp.seq ?_
      refine Wp.region ?_
      refine GoT.q rfl (QEx.move rfl (.tmp rfl)) rfl (lt_b rfl) ?_
      refine GoT.q rfl (QEx.assign rfl (.tmp rfl)) rfl (lt_b rfl) ?_
      refine GoT.nil ?_
      refine chk_e h fun c2 h => ?_
      refine bind_e h fun r3 hr3 h => ?_
      refine Wp.seq ?_
      refine Wp.region ?_
      refine GoT.q rfl (QEx.move rfl (.tmp rfl)) rfl (lt_b rfl) ?_
      refine GoT.q rfl (QEx.move rfl (.tmp rfl)) rfl (lt_b rfl) ?_
      refine GoT.q rfl (QEx.move rfl (.tmp rfl)) rfl (lt_b rfl) ?_
      refine GoT.q rfl (QEx.as (.cptr (MassData.cells (ix s v1))) (QEx.idxL (E := MassData.av) rfl et114 (.tmp rfl) (.tmp rfl) c2)) rfl (lt_b rfl) ?_
      refine GoT.q rfl (QEx.ldC (x := (MassData.av (ix s v1))) rfl ag78 ts78 (.tmp rfl) (.inl ⟨rfl, rfl, rfl⟩)) rfl (lt_b rfl) ?_
      refine GoT.q rfl (QEx.calC (A := (fun x : MassData => [(MassData.av x)])) (E := boolAV) (g := f) (ix s v1) r3 cf_1 rfl (.tmp rfl) (.cons (.tmp rfl) .nil) rfl hr3 rfl) rfl (lt_b rfl) ?_
      refine GoT.nil ?_
      refine Wp.condS h rfl (fun h => ?_) (fun h => ?_)
      · refine Wp.seq ?_
        refine Wp.region ?_
        refine GoT.q rfl (QEx.move rfl (.tmp rfl)) rfl (lt_b rfl) ?_
        refine GoT.q rfl (QEx.assign rfl (.tmp rfl)) rfl (lt_b rfl) ?_
        refine GoT.nil ?_
        refine Wp.ret ?_
        cases h
        exact LeafQ.ret [] (by decide) (.cons (.tmp rfl) .nil) rfl
      · refine Wp.skip ?_
        refine let_e h fun x4 hx4 h => ?_
        refine Wp.region ?_
        refine GoT.q rfl (QEx.addK rfl (.tmp rfl) .con) rfl (lt_b rfl) ?_
        refine GoT.q rfl (QEx.eq (QEx.move rfl (.tmp rfl)) (congrArg iAV hx4)) rfl (lt_b rfl) ?_
        refine GoT.nil ?_
        exact Round1.mk x4 [] [] h (LS.to.mk (.b rfl rfl (.b rfl rfl (.b rfl rfl (.b rfl rfl .n)))) .n rfl)
    · refine Wp.exit ?_
      exact Joined0.mk [] [] h (LS.to.mk .n .n rfl)
theorem slices_ContainsFunc_MassData_ok {s : List MassData} {f : MassData → Option Bool} {fid_1 : Nat} {caps_1 : List AV} (cf_1 : CloR Try.prog fid_1 caps_1 (fun x : MassData => [(MassData.av x)]) boolAV f) {r : Bool} (h : slices_ContainsFunc_MassData s f = some r) : FnR Try.prog 105 [((slAV 4 MassData.av) s), (.clo fid_1 caps_1)] (boolAV r) := by
  refine FnR.intro' (fn := Try.f105) (N := 9) Try.func105 rfl rfl (Nat.le_of_ble_eq_true rfl) [5] ?_
  refine Wp.seq ?_
  refine Wp.region ?_
  refine GoT.q rfl (QEx.as (boolAV false) (QEx.assign rfl .con)) rfl (lt_b rfl) ?_
  refine GoT.nil ?_
  refine bind_e h fun r1 hr1 h => ?_
  refine let_e h fun x2 hx2 h => ?_
  refine Wp.seq ?_
  refine Wp.region ?_
  refine GoT.q rfl (QEx.move rfl (.tmp rfl)) rfl (lt_b rfl) ?_
  refine GoT.q rfl (QEx.move rfl (.tmp rfl)) rfl (lt_b rfl) ?_
  refine GoT.q rfl (QEx.cal0 (r := (iAV r1)) [((slAV 4 MassData.av) s), (.clo fid_1 caps_1)] rfl Try.call110 (.cons (.tmp rfl) (.cons (.tmp rfl) .nil)) (slices_IndexFunc_MassData_ok cf_1 hr1) rfl rfl) rfl (lt_b rfl) ?_
  refine GoT.q rfl (QEx.geqK rfl (.tmp rfl) .con) rfl (lt_b rfl) ?_
  refine GoT.q rfl (QEx.eq (QEx.assign rfl (.tmp rfl)) (congrArg boolAV hx2)) rfl (lt_b rfl) ?_
  refine GoT.nil ?_
  refine Wp.ret ?_
  cases h
  exact LeafQ.ret [] (by decide) (.cons (.tmp rfl) .nil) rfl
theorem massdata_Combine_c1_ok {p : MassData} {r : Bool} (h : massdata_Combine_c1 p = r) : FnR Try.prog 106 [(MassData.av p)] (boolAV r) := by
  refine FnR.intro' (fn := Try.f106) (N := 6) Try.func106 rfl rfl (Nat.le_of_ble_eq_true rfl) [1] ?_
  refine Wp.seq ?_
  refine Wp.region ?_
  refine GoT.a rfl (AEx.bx (Z := (MassData.cells p)) rfl (.tmp rfl) rfl rfl rfl rfl) rfl (lt_b rfl) ?_
  refine GoT.q rfl (QEx.as (boolAV false) (QEx.assign rfl .con)) rfl (lt_b rfl) ?_
  refine GoT.nil ?_
  refine let_e h fun x1 hx1 h => ?_
  refine Wp.seq ?_
  refine Wp.region ?_
  refine GoT.q rfl (QEx.fldP 0 rfl Try.underlying78 rfl ts3 rfl (.tmp rfl) rfl) rfl (lt_b rfl) ?_
  refine GoT.qr rfl rfl (QEx.ldP1 (MassData.cells p) (iAV p.Mass) rfl ag3 (.tmp rfl) rfl) rfl (lt_b rfl) ?_
  refine GoT.q rfl (QEx.lssK rfl (.tmp rfl) .con) rfl (lt_b rfl) ?_
  refine GoT.q rfl (QEx.eq (QEx.assign rfl (.tmp rfl)) (congrArg boolAV hx1)) rfl (lt_b rfl) ?_
  refine GoT.nil ?_
  refine Wp.ret ?_
  cases h
  exact LeafQ.ret [] (by decide) (.cons (.tmp rfl) .nil) rfl
theorem massdata_Combine_ok {parts : List MassData} {r : MassData} (h : massdata_Combine parts = some r) : FnR Try.prog 94 [((slAV 4 MassData.av) parts)] (MassData.av r) := by
  refine FnR.intro' (fn := Try.f94) (N := 91) Try.func94 rfl rfl (Nat.le_of_ble_eq_true rfl) [2, 3, 8, 11, 12, 13, 17, 21, 65] ?_
  refine Wp.seq ?_
  refine Wp.region ?_
  refine GoT.a rfl (AEx.alZ rfl zt78 rfl rfl) rfl (lt_b rfl) ?_
  refine GoT.nil ?_
  refine Wp.seq ?_
  refine bind_e h fun r1 hr1 h => ?_
  refine Wp.seq ?_
  refine Wp.region ?_
  refine GoT.q rfl (QEx.move rfl (.tmp rfl)) rfl (lt_b rfl) ?_
  refine GoT.q rfl (QEx.lenL rfl ⟨_, Try.underlying114⟩ (.tmp rfl)) rfl (lt_b rfl) ?_
  refine GoT.q rfl (QEx.gtrK rfl (.tmp rfl) .con) rfl (lt_b rfl) ?_
  refine GoT.q rfl (QEx.move rfl (.tmp rfl)) rfl (lt_b rfl) ?_
  refine GoT.g rfl rfl rfl (fun hg => QEx.move rfl (.tmp rfl)) rfl (lt_b rfl) ?_
  refine GoT.g rfl rfl rfl (fun hg => QEx.cal0 (r := (boolAV r1)) [((slAV 4 MassData.av) parts), (.clo 106 [])] rfl Try.call105 (.cons (.opt (.tmp rfl) hg) (.cons .fn .nil)) (slices_ContainsFunc_MassData_ok ⟨Try.call106, fun x r h => (massdata_Combine_c1_ok (Option.some.inj h))⟩ (gcall hr1 hg)) rfl rfl) rfl (lt_b rfl) ?_
  refine GoT.q rfl (QEx.pickK rfl (.tmp rfl) (fun hp => .con) (fun hp => (.opt (.tmp rfl) (beq_f hp)))) rfl (lt_b rfl) ?_
  refine GoT.nil ?_
  refine Wp.condS h rfl (fun h => ?_) (fun h => ?_)
  · refine let_e h fun x2 hx2 h => ?_
    refine Wp.seq ?_
    refine Wp.region ?_
    refine GoT.q rfl (QEx.as (MassData.av (⟨0, Vec.zero, 0⟩ : MassData)) (QEx.buildZ rfl Try.underlying78 zt78 (by kernel_rfl) .nil)) rfl (lt_b rfl) ?_
    refine GoT.s rfl (AEx.sto (Z := (MassData.cells x2)) rfl rfl ts78 (.tmp rfl) rfl (.tmp rfl) rfl rfl (le_b rfl) (congrArg (fun (x : MassData) => (MassData.cells x)) hx2)) rfl ?_
    refine GoT.nil ?_
    refine Wp.ret ?_
    cases h
    exact LeafQ.ret [] (by decide) (.cons (.agg rfl rfl ag78 ts78) .nil) rfl
  · refine Wp.skip ?_
    refine Wp.seq ?_
    refine Wp.region ?_
    refine GoT.a rfl (AEx.alZ rfl zt78 rfl rfl) rfl (lt_b rfl) ?_
    refine GoT.nil ?_
    refine Wp.seq ?_
    refine Wp.region ?_
    refine GoT.q rfl (QEx.as (iAV 0) (QEx.assign rfl .con)) rfl (lt_b rfl) ?_
    refine GoT.q rfl (QEx.as (iAV 0) (QEx.assign rfl .con)) rfl (lt_b rfl) ?_
    refine GoT.q rfl (QEx.as (iAV 0) (QEx.assign rfl .con)) rfl (lt_b rfl) ?_
    refine GoT.nil ?_
    refine Wp.join4 (fun v3 v4 v5 v6 => ⟨[(0, ((slAV 4 MassData.av) parts)), (2, (.ptr 2 0)), (3, (.ptr 3 0)), (4, (iAV v3)), (5, (iAV v4)), (6, (iAV v5))], [(2, .cells (MassData.cells MassData.zero)), (3, .cells (MassData.cells v6))], [8, 11, 12, 13, 17, 21, 65]⟩) (fun v3 v4 v5 v6 => (massdata_Combine_j5 parts) v3 v4 v5 v6 = some r) ?_ ?_
    · intro v3 v4 v5 v6 h
      refine Wp.join1 (fun v23 => ⟨[(0, ((slAV 4 MassData.av) parts)), (2, (.ptr 2 0)), (3, (.ptr 3 0))], [(2, .cells (MassData.cells MassData.zero)), (3, .cells (MassData.cells v23))], [8, 11, 12, 13, 17, 21, 65]⟩) (fun v23 => (massdata_Combine_j4 parts) v23 = some r) ?_ ?_
      · intro v23 h
        refine Wp.join1 (fun v27 => ⟨[(2, (.ptr 2 0)), (3, (.ptr 3 0))], [(2, .cells (MassData.cells MassData.zero)), (3, .cells (MassData.cells v27))], [8, 11, 12, 13, 17, 21, 65]⟩) (fun v27 => massdata_Combine_j3 v27 = some r) ?_ ?_
        · intro v27 h
          refine let_e h fun x40 hx40 h => ?_
          refine Wp.seq ?_
          refine Wp.region ?_
          refine GoT.qr rfl rfl (QEx.ldP (MassData.cells v27) (MassData.av v27) rfl ag78 ts78 (.tmp rfl) (le_b rfl) rfl) rfl (lt_b rfl) ?_
          refine GoT.s rfl (AEx.sto (Z := (MassData.cells x40)) rfl rfl ts78 (.tmp rfl) rfl (.tmp rfl) rfl rfl (le_b rfl) (congrArg (fun (x : MassData) => (MassData.cells x)) hx40)) rfl ?_
          refine GoT.nil ?_
          refine Wp.ret ?_
          cases h
          exact LeafQ.ret [] (by decide) (.cons (.agg rfl rfl ag78 ts78) .nil) rfl
        · refine Wp.seq ?_
          refine Wp.region ?_
          refine GoT.q rfl (QEx.move rfl (.tmp rfl)) rfl (lt_b rfl) ?_
          refine GoT.q rfl (QEx.lenL rfl ⟨_, Try.underlying114⟩ (.tmp rfl)) rfl (lt_b rfl) ?_
          refine GoT.q rfl (QEx.as (iAV 0) (QEx.move rfl .con)) rfl (lt_b rfl) ?_
          refine GoT.nil ?_
          refine Wp.block ?_
          refine Wp.loop2 (fun v28 v29 => ⟨[(2, (.ptr 2 0)), (3, (.ptr 3 0)), (65, ((slAV 4 MassData.av) parts)), (66, (iAV ((parts).length : Int))), (67, (iAV v28))], [(2, .cells (MassData.cells MassData.zero)), (3, .cells (MassData.cells v29))], [8, 11, 12, 13, 17, 21, 65]⟩) (fun n v28 v29 => massdata_Combine_l2 parts massdata_Combine_j3 n v28 v29 = some r) fuel 0 v23 [] [] h (LS.to.mk (.r rfl rfl (.r rfl rfl (.b rfl rfl (.b rfl rfl (.b rfl rfl .n))))) (.b rfl rfl rfl (.b rfl rfl rfl .n)) rfl) ?_
          rintro (_ | n5) v28 v29 h
          · exact none_e h
          rw [massdata_Combine_l2] at h
          refine Wp.seq ?_
          refine Wp.region ?_
          refine GoT.q rfl (QEx.lssK rfl (.tmp rfl) (.tmp rfl)) rfl (lt_b rfl) ?_
          refine GoT.nil ?_
          refine Wp.seq ?_
          refine Wp.condS h rfl (fun h => ?_) (fun h => ?_)
          · refine Wp.skip ?_
            refine Wp.seq ?_
            refine Wp.block ?_
            refine chk_e h fun c30 h => ?_
            refine let_e h fun x31 hx31 h => ?_
            refine Wp.seq ?_
            refine Wp.region ?_
            refine GoT.q rfl (QEx.as (.cptr (MassData.cells (ix parts v28))) (QEx.idxL (E := MassData.av) rfl et114 (.tmp rfl) (.tmp rfl) c30)) rfl (lt_b rfl) ?_
            refine GoT.q rfl (QEx.ldC (x := (MassData.av (ix parts v28))) rfl ag78 ts78 (.tmp rfl) (.inl ⟨rfl, rfl, rfl⟩)) rfl (lt_b rfl) ?_
            refine GoT.a rfl (AEx.alZ rfl zt78 rfl rfl) rfl (lt_b rfl) ?_
            refine GoT.s rfl (AEx.sto (Z := (MassData.cells x31)) rfl rfl ts78 (.tmp rfl) rfl (.tmp rfl) rfl rfl (le_b rfl) (congrArg (fun (x : MassData) => (MassData.cells x)) hx31)) rfl ?_
            refine GoT.nil ?_
            refine let_e h fun r32 hr32 h => ?_
            refine let_e h fun x33 hx33 h => ?_
            refine Wp.seq ?_
            refine Wp.region ?_
            refine GoT.q rfl (QEx.fldP 1 rfl Try.underlying78 rfl ts24 rfl (.tmp rfl) rfl) rfl (lt_b rfl) ?_
            refine GoT.qr rfl rfl (QEx.ldP (MassData.cells x31) (Vec.av x31.Center) rfl ag24 ts24 (.tmp rfl) (le_b rfl) rfl) rfl (lt_b rfl) ?_
            refine GoT.q rfl (QEx.fldP 1 rfl Try.underlying78 rfl ts24 rfl (.tmp rfl) rfl) rfl (lt_b rfl) ?_
            refine GoT.qr rfl rfl (QEx.ldP (MassData.cells v29) (Vec.av v29.Center) rfl ag24 ts24 (.tmp rfl) (le_b rfl) rfl) rfl (lt_b rfl) ?_
            refine GoT.q rfl (QEx.cal0 (r := (Vec.av r32)) [(Vec.av x31.Center), (Vec.av v29.Center)] rfl Try.call28 (.cons (.tmp rfl) (.cons (.tmp rfl) .nil)) (vec2_Sub_ok hr32) rfl rfl) rfl (lt_b rfl) ?_
            refine GoT.a rfl (AEx.alZ rfl zt24 rfl rfl) rfl (lt_b rfl) ?_
            refine GoT.s rfl (AEx.sto (Z := (Vec.cells x33)) rfl rfl ts24 (.tmp rfl) rfl (.tmp rfl) rfl rfl (le_b rfl) (congrArg (fun (x : Vec) => (Vec.cells x)) hx33)) rfl ?_
            refine GoT.nil ?_
            refine let_e h fun r34 hr34 h => ?_
            refine bind_e h fun r35 hr35 h => ?_
            refine bind_e h fun r36 hr36 h => ?_
            refine let_e h fun r37 hr37 h => ?_
            refine let_e h fun x38 hx38 h => ?_
            refine Wp.drawn2 (n0 := 14) [8, 13, 17, 21, 65] mixed ?_
            refine GoD.q rfl (QEx.fldP 3 rfl Try.underlying78 rfl ts3 rfl (.tmp rfl) rfl) rfl (lt_b rfl) ?_
            refine GoD.qr rfl rfl (QEx.ldP1 (MassData.cells v29) (iAV v29.Inertia) rfl ag3 (.tmp rfl) rfl) rfl (lt_b rfl) ?_
            refine GoD.q rfl (QEx.fldP 3 rfl Try.underlying78 rfl ts3 rfl (.tmp rfl) rfl) rfl (lt_b rfl) ?_
            refine GoD.qr rfl rfl (QEx.ldP1 (MassData.cells x31) (iAV x31.Inertia) rfl ag3 (.tmp rfl) rfl) rfl (lt_b rfl) ?_
            refine GoD.q rfl (QEx.cal0 (r := (iAV r34)) [(iAV v29.Inertia), (iAV x31.Inertia)] rfl Try.call31 (.cons (.tmp rfl) (.cons (.tmp rfl) .nil)) (fixed_Add_ok hr34) rfl rfl) rfl (lt_b rfl) ?_
            refine GoD.q rfl (QEx.fldP 0 rfl Try.underlying78 rfl ts3 rfl (.tmp rfl) rfl) rfl (lt_b rfl) ?_
            refine GoD.qr rfl rfl (QEx.ldP1 (MassData.cells x31) (iAV x31.Mass) rfl ag3 (.tmp rfl) rfl) rfl (lt_b rfl) ?_
            refine GoD.qr rfl rfl (QEx.ldP (Vec.cells x33) (Vec.av x33) rfl ag24 ts24 (.tmp rfl) (le_b rfl) rfl) rfl (lt_b rfl) ?_
            refine GoD.qr rfl rfl (QEx.ldP (Vec.cells x33) (Vec.av x33) rfl ag24 ts24 (.tmp rfl) (le_b rfl) rfl) rfl (lt_b rfl) ?_
            refine GoD.q rfl (QEx.cal0 (r := (iAV r35)) [(Vec.av x33), (Vec.av x33)] rfl Try.call107 (.cons (.tmp rfl) (.cons (.tmp rfl) .nil)) (vec2_Dot_ok hr35) rfl rfl) rfl (lt_b rfl) ?_
            refine GoD.q rfl (QEx.cal0 (r := (iAV r36)) [(iAV x31.Mass), (iAV r35)] rfl Try.call32 (.cons (.tmp rfl) (.cons (.tmp rfl) .nil)) (fixed_Mul_ok hr36) rfl rfl) rfl (lt_b rfl) ?_
            refine GoD.q rfl (QEx.cal0 (r := (iAV r37)) [(iAV r34), (iAV r36)] rfl Try.call31 (.cons (.tmp rfl) (.cons (.tmp rfl) .nil)) (fixed_Add_ok hr37) rfl rfl) rfl (lt_b rfl) ?_
            refine GoD.q rfl (QEx.fldP 3 rfl Try.underlying78 rfl ts3 rfl (.tmp rfl) rfl) rfl (lt_b rfl) ?_
            refine GoD.s rfl (Z := (MassData.cells x38)) rfl rfl ts3 (.tmp rfl) rfl (.tmp rfl) rfl rfl (le_b rfl) (congrArg (fun (x : MassData) => (MassData.cells x)) hx38) ?_
            refine GoD.nil ⟨by kernel_rfl, by kernel_rfl, by kernel_rfl, by kernel_rfl, by kernel_rfl, ?_⟩
            refine GoT.nil ?_
            refine let_e h fun x39 hx39 h => ?_
            refine Wp.region ?_
            refine GoT.q rfl (QEx.addK rfl (.tmp rfl) .con) rfl (lt_b rfl) ?_
            refine GoT.q rfl (QEx.eq (QEx.move rfl (.tmp rfl)) (congrArg iAV hx39)) rfl (lt_b rfl) ?_
            refine GoT.nil ?_
            exact Round2.mk x39 x38 [11, 12] [] h (LS.to.mk (.r rfl rfl (.r rfl rfl (.b rfl rfl (.b rfl rfl (.b rfl rfl .n))))) (.b rfl rfl rfl (.b rfl rfl rfl .n)) rfl)
          · refine Wp.exit ?_
            exact Joined1.mk v29 [] [] h (LS.to.mk (.r rfl rfl (.r rfl rfl .n)) (.b rfl rfl rfl (.b rfl rfl rfl .n)) rfl)
      · refine Wp.seq ?_
        refine Wp.region ?_
        refine GoT.q rfl (QEx.move rfl (.tmp rfl)) rfl (lt_b rfl) ?_
        refine GoT.q rfl (QEx.gtrK rfl (.tmp rfl) .con) rfl (lt_b rfl) ?_
        refine GoT.nil ?_
        refine Wp.condS h rfl (fun h => ?_) (fun h => ?_)
        · refine bind_e h fun r24 hr24 h => ?_
          refine bind_e h fun r25 hr25 h => ?_
          refine let_e h fun x26 hx26 h => ?_
          refine Wp.region ?_
          refine GoT.q rfl (QEx.move rfl (.tmp rfl)) rfl (lt_b rfl) ?_
          refine GoT.q rfl (QEx.move rfl (.tmp rfl)) rfl (lt_b rfl) ?_
          refine GoT.q rfl (QEx.cal0 (r := (iAV r24)) [(iAV v4), (iAV v3)] rfl Try.call55 (.cons (.tmp rfl) (.cons (.tmp rfl) .nil)) (fixed_RoundDiv_ok hr24) rfl rfl) rfl (lt_b rfl) ?_
          refine GoT.q rfl (QEx.move rfl (.tmp rfl)) rfl (lt_b rfl) ?_
          refine GoT.q rfl (QEx.move rfl (.tmp rfl)) rfl (lt_b rfl) ?_
          refine GoT.q rfl (QEx.cal0 (r := (iAV r25)) [(iAV v5), (iAV v3)] rfl Try.call55 (.cons (.tmp rfl) (.cons (.tmp rfl) .nil)) (fixed_RoundDiv_ok hr25) rfl rfl) rfl (lt_b rfl) ?_
          refine GoT.q rfl (QEx.as (Vec.av (⟨r24, r25⟩ : Vec)) (QEx.buildZ rfl Try.underlying24 zt24 (by kernel_rfl) (.cons rfl (.tmp rfl) rfl rfl (le_b rfl) (.cons rfl (.tmp rfl) rfl rfl (le_b rfl) .nil)))) rfl (lt_b rfl) ?_
          refine GoT.q rfl (QEx.fldP 1 rfl Try.underlying78 rfl ts24 rfl (.tmp rfl) rfl) rfl (lt_b rfl) ?_
          refine GoT.s rfl (AEx.sto (Z := (MassData.cells x26)) rfl rfl ts24 (.tmp rfl) rfl (.tmp rfl) rfl rfl (le_b rfl) (congrArg (fun (x : MassData) => (MassData.cells x)) hx26)) rfl ?_
          refine GoT.nil ?_
          exact Joined1.mk x26 [] [] h (LS.to.mk (.b rfl rfl (.r rfl rfl (.r rfl rfl .n))) (.b rfl rfl rfl (.b rfl rfl rfl .n)) rfl)
        · refine Wp.skip ?_
          exact Joined1.mk v6 [] [] h (LS.to.mk (.b rfl rfl (.r rfl rfl (.r rfl rfl .n))) (.b rfl rfl rfl (.b rfl rfl rfl .n)) rfl)
    · refine Wp.seq ?_
      refine Wp.region ?_
      refine GoT.q rfl (QEx.move rfl (.tmp rfl)) rfl (lt_b rfl) ?_
      refine GoT.q rfl (QEx.lenL rfl ⟨_, Try.underlying114⟩ (.tmp rfl)) rfl (lt_b rfl) ?_
      refine GoT.q rfl (QEx.as (iAV 0) (QEx.move rfl .con)) rfl (lt_b rfl) ?_
      refine GoT.nil ?_
      refine Wp.block ?_
      refine Wp.loop5 (fun v7 v8 v9 v10 v11 => ⟨[(0, ((slAV 4 MassData.av) parts)), (2, (.ptr 2 0)), (3, (.ptr 3 0)), (4, (iAV v7)), (5, (iAV v8)), (6, (iAV v9)), (21, ((slAV 4 MassData.av) parts)), (22, (iAV ((parts).length : Int))), (23, (iAV v10))], [(2, .cells (MassData.cells MassData.zero)), (3, .cells (MassData.cells v11))], [8, 11, 12, 13, 17, 21, 65]⟩) (fun n v7 v8 v9 v10 v11 => massdata_Combine_l1 parts (massdata_Combine_j5 parts) n v7 v8 v9 v10 v11 = some r) fuel 0 0 0 0 MassData.zero [] [] h (LS.to.mk (.b rfl rfl (.r rfl rfl (.r rfl rfl (.b rfl rfl (.b rfl rfl (.b rfl rfl (.b rfl rfl (.b rfl rfl (.b rfl rfl .n))))))))) (.b rfl rfl rfl (.b rfl rfl rfl .n)) rfl) ?_
      rintro (_ | n2) v7 v8 v9 v10 v11 h
      · exact none_e h
      rw [massdata_Combine_l1] at h
      refine Wp.seq ?_
      refine Wp.region ?_
      refine GoT.q rfl (QEx.lssK rfl (.tmp rfl) (.tmp rfl)) rfl (lt_b rfl) ?_
      refine GoT.nil ?_
      refine Wp.seq ?_
      refine Wp.condS h rfl (fun h => ?_) (fun h => ?_)
      · refine Wp.skip ?_
        refine Wp.seq ?_
        refine Wp.block ?_
        refine chk_e h fun c12 h => ?_
        refine let_e h fun x13 hx13 h => ?_
        refine Wp.seq ?_
        refine Wp.region ?_
        refine GoT.q rfl (QEx.as (.cptr (MassData.cells (ix parts v10))) (QEx.idxL (E := MassData.av) rfl et114 (.tmp rfl) (.tmp rfl) c12)) rfl (lt_b rfl) ?_
        refine GoT.q rfl (QEx.ldC (x := (MassData.av (ix parts v10))) rfl ag78 ts78 (.tmp rfl) (.inl ⟨rfl, rfl, rfl⟩)) rfl (lt_b rfl) ?_
        refine GoT.a rfl (AEx.alZ rfl zt78 rfl rfl) rfl (lt_b rfl) ?_
        refine GoT.s rfl (AEx.sto (Z := (MassData.cells x13)) rfl rfl ts78 (.tmp rfl) rfl (.tmp rfl) rfl rfl (le_b rfl) (congrArg (fun (x : MassData) => (MassData.cells x)) hx13)) rfl ?_
        refine GoT.nil ?_
        refine let_e h fun r14 hr14 h => ?_
        refine Wp.seq ?_
        refine Wp.region ?_
        refine GoT.q rfl (QEx.fldP 0 rfl Try.underlying78 rfl ts3 rfl (.tmp rfl) rfl) rfl (lt_b rfl) ?_
        refine GoT.qr rfl rfl (QEx.ldP1 (MassData.cells x13) (iAV x13.Mass) rfl ag3 (.tmp rfl) rfl) rfl (lt_b rfl) ?_
        refine GoT.q rfl (QEx.cal0 (r := (iAV r14)) [(iAV x13.Mass)] rfl Try.call54 (.cons (.tmp rfl) .nil) (fixed_Saturate_ok hr14) rfl rfl) rfl (lt_b rfl) ?_
        refine GoT.q rfl (QEx.assign rfl (.tmp rfl)) rfl (lt_b rfl) ?_
        refine GoT.nil ?_
        refine let_e h fun r15 hr15 h => ?_
        refine let_e h fun x16 hx16 h => ?_
        refine Wp.seq ?_
        refine Wp.region ?_
        refine GoT.q rfl (QEx.fldP 0 rfl Try.underlying78 rfl ts3 rfl (.tmp rfl) rfl) rfl (lt_b rfl) ?_
        refine GoT.qr rfl rfl (QEx.ldP1 (MassData.cells v11) (iAV v11.Mass) rfl ag3 (.tmp rfl) rfl) rfl (lt_b rfl) ?_
        refine GoT.q rfl (QEx.move rfl (.tmp rfl)) rfl (lt_b rfl) ?_
        refine GoT.q rfl (QEx.cal0 (r := (iAV r15)) [(iAV v11.Mass), (iAV r14)] rfl Try.call31 (.cons (.tmp rfl) (.cons (.tmp rfl) .nil)) (fixed_Add_ok hr15) rfl rfl) rfl (lt_b rfl) ?_
        refine GoT.q rfl (QEx.fldP 0 rfl Try.underlying78 rfl ts3 rfl (.tmp rfl) rfl) rfl (lt_b rfl) ?_
        refine GoT.s rfl (AEx.sto (Z := (MassData.cells x16)) rfl rfl ts3 (.tmp rfl) rfl (.tmp rfl) rfl rfl (le_b rfl) (congrArg (fun (x : MassData) => (MassData.cells x)) hx16)) rfl ?_
        refine GoT.nil ?_
        refine let_e h fun r17 hr17 h => ?_
        refine let_e h fun r18 hr18 h => ?_
        refine let_e h fun x19 hx19 h => ?_
        refine let_e h fun x20 hx20 h => ?_
        refine let_e h fun x21 hx21 h => ?_
        refine Wp.drawn2 (n0 := 22) [11, 12, 13, 17, 21, 65] mixed ?_
        refine GoD.q rfl (QEx.move rfl (.tmp rfl)) rfl (lt_b rfl) ?_
        refine GoD.q rfl (QEx.move rfl (.tmp rfl)) rfl (lt_b rfl) ?_
        refine GoD.q rfl (QEx.addK rfl (.tmp rfl) (.tmp rfl)) rfl (lt_b rfl) ?_
        refine GoD.q rfl (QEx.move rfl (.tmp rfl)) rfl (lt_b rfl) ?_
        refine GoD.q rfl (QEx.move rfl (.tmp rfl)) rfl (lt_b rfl) ?_
        refine GoD.q rfl (QEx.fldP 1 rfl Try.underlying78 rfl ts24 rfl (.tmp rfl) rfl) rfl (lt_b rfl) ?_
        refine GoD.q rfl (QEx.fldP 1 rfl Try.underlying24 rfl ts3 rfl (.tmp rfl) rfl) rfl (lt_b rfl) ?_
        refine GoD.qr rfl rfl (QEx.ldP1 (MassData.cells x13) (iAV x13.Center.X) rfl ag3 (.tmp rfl) rfl) rfl (lt_b rfl) ?_
        refine GoD.q rfl (QEx.cal0 (r := (iAV r17)) [(iAV x13.Center.X)] rfl Try.call54 (.cons (.tmp rfl) .nil) (fixed_Saturate_ok hr17) rfl rfl) rfl (lt_b rfl) ?_
        refine GoD.q rfl (QEx.mulK rfl (.tmp rfl) (.tmp rfl)) rfl (lt_b rfl) ?_
        refine GoD.q rfl (QEx.addK rfl (.tmp rfl) (.tmp rfl)) rfl (lt_b rfl) ?_
        refine GoD.q rfl (QEx.move rfl (.tmp rfl)) rfl (lt_b rfl) ?_
        refine GoD.q rfl (QEx.move rfl (.tmp rfl)) rfl (lt_b rfl) ?_
        refine GoD.q rfl (QEx.fldP 1 rfl Try.underlying78 rfl ts24 rfl (.tmp rfl) rfl) rfl (lt_b rfl) ?_
        refine GoD.q rfl (QEx.fldP 2 rfl Try.underlying24 rfl ts3 rfl (.tmp rfl) rfl) rfl (lt_b rfl) ?_
        refine GoD.qr rfl rfl (QEx.ldP1 (MassData.cells x13) (iAV x13.Center.Y) rfl ag3 (.tmp rfl) rfl) rfl (lt_b rfl) ?_
        refine GoD.q rfl (QEx.cal0 (r := (iAV r18)) [(iAV x13.Center.Y)] rfl Try.call54 (.cons (.tmp rfl) .nil) (fixed_Saturate_ok hr18) rfl rfl) rfl (lt_b rfl) ?_
        refine GoD.q rfl (QEx.mulK rfl (.tmp rfl) (.tmp rfl)) rfl (lt_b rfl) ?_
        refine GoD.q rfl (QEx.addK rfl (.tmp rfl) (.tmp rfl)) rfl (lt_b rfl) ?_
        refine GoD.q rfl (QEx.eq (QEx.assign rfl (.tmp rfl)) (congrArg iAV hx19)) rfl (lt_b rfl) ?_
        refine GoD.q rfl (QEx.eq (QEx.assign rfl (.tmp rfl)) (congrArg iAV hx20)) rfl (lt_b rfl) ?_
        refine GoD.q rfl (QEx.eq (QEx.assign rfl (.tmp rfl)) (congrArg iAV hx21)) rfl (lt_b rfl) ?_
        refine GoD.nil ⟨by kernel_rfl, by kernel_rfl, by kernel_rfl, by kernel_rfl, by kernel_rfl, ?_⟩
        refine GoT.nil ?_
        refine let_e h fun x22 hx22 h => ?_
        refine Wp.region ?_
        refine GoT.q rfl (QEx.addK rfl (.tmp rfl) .con) rfl (lt_b rfl) ?_
        refine GoT.q rfl (QEx.eq (QEx.move rfl (.tmp rfl)) (congrArg iAV hx22)) rfl (lt_b rfl) ?_
        refine GoT.nil ?_
        exact Round5.mk x19 x20 x21 x22 x16 [8] [] h (LS.to.mk (.b rfl rfl (.r rfl rfl (.r rfl rfl (.b rfl rfl (.b rfl rfl (.b rfl rfl (.b rfl rfl (.b rfl rfl (.b rfl rfl .n))))))))) (.b rfl rfl rfl (.b rfl rfl rfl .n)) rfl)
      · refine Wp.exit ?_
        exact Joined4.mk v7 v8 v9 v11 [] [] h (LS.to.mk (.b rfl rfl (.r rfl rfl (.r rfl rfl (.b rfl rfl (.b rfl rfl (.b rfl rfl .n)))))) (.b rfl rfl rfl (.b rfl rfl rfl .n)) rfl)
theorem massdata_OfFixtures_ok {fixtures : List Fixture} {r : MassData} (h : massdata_OfFixtures fixtures = some r) : FnR Try.prog 73 [((slAV 10 Fixture.av) fixtures)] (MassData.av r) := by
  refine FnR.intro' (fn := Try.f73) (N := 30) Try.func73 rfl rfl (Nat.le_of_ble_eq_true rfl) [2, 3, 5, 6, 10, 19, 25, 26, 28] ?_
  refine Wp.seq ?_
  refine Wp.region ?_
  refine GoT.a rfl (AEx.alZ rfl zt78 rfl rfl) rfl (lt_b rfl) ?_
  refine GoT.nil ?_
  refine Wp.seq ?_
  refine Wp.seq ?_
  refine Wp.region ?_
  refine GoT.q rfl (QEx.move rfl (.tmp rfl)) rfl (lt_b rfl) ?_
  refine GoT.q rfl (QEx.lenL rfl ⟨_, Try.underlying27⟩ (.tmp rfl)) rfl (lt_b rfl) ?_
  refine GoT.q rfl (QEx.gtrK rfl (.tmp rfl) .con) rfl (lt_b rfl) ?_
  refine GoT.nil ?_
  refine Wp.condS h rfl (fun h => ?_) (fun h => ?_)
  · refine let_e h fun x1 hx1 h => ?_
    refine Wp.seq ?_
    refine Wp.region ?_
    refine GoT.q rfl (QEx.as (MassData.av (⟨0, Vec.zero, 0⟩ : MassData)) (QEx.buildZ rfl Try.underlying78 zt78 (by kernel_rfl) .nil)) rfl (lt_b rfl) ?_
    refine GoT.s rfl (AEx.sto (Z := (MassData.cells x1)) rfl rfl ts78 (.tmp rfl) rfl (.tmp rfl) rfl rfl (le_b rfl) (congrArg (fun (x : MassData) => (MassData.cells x)) hx1)) rfl ?_
    refine GoT.nil ?_
    refine Wp.ret ?_
    cases h
    exact LeafQ.ret [] (by decide) (.cons (.agg rfl rfl ag78 ts78) .nil) rfl
  · refine Wp.skip ?_
    refine Wp.seq ?_
    refine Wp.region ?_
    refine GoT.q rfl (QEx.as (slT 3 0 4 MassData.av ([] : List MassData)) (QEx.assign rfl (.nil))) rfl (lt_b rfl) ?_
    refine GoT.nil ?_
    refine Wp.join1 (fun v2 => ⟨[(2, (.ptr 2 0)), (3, (slT 3 0 4 MassData.av v2))], [(2, .cells (MassData.cells MassData.zero))], [5, 6, 10, 19, 25, 26, 28]⟩) (fun v2 => massdata_OfFixtures_j3 v2 = some r) ?_ ?_
    · intro v2 h
      refine bind_e h fun r12 hr12 h => ?_
      refine let_e h fun x13 hx13 h => ?_
      refine Wp.seq ?_
      refine Wp.region ?_
      refine GoT.q rfl (QEx.move rfl (.tmp rfl)) rfl (lt_b rfl) ?_
      refine GoT.q rfl (QEx.cal0 (r := (MassData.av r12)) [((slAV 4 MassData.av) v2)] rfl Try.call94 (.cons (.tmp rfl) .nil) (massdata_Combine_ok hr12) rfl rfl) rfl (lt_b rfl) ?_
      refine GoT.s rfl (AEx.sto (Z := (MassData.cells x13)) rfl rfl ts78 (.tmp rfl) rfl (.tmp rfl) rfl rfl (le_b rfl) (congrArg (fun (x : MassData) => (MassData.cells x)) hx13)) rfl ?_
      refine GoT.nil ?_
      refine Wp.ret ?_
      cases h
      exact LeafQ.ret [] (by decide) (.cons (.agg rfl rfl ag78 ts78) .nil) rfl
    · refine Wp.seq ?_
      refine Wp.region ?_
      refine GoT.q rfl (QEx.move rfl (.tmp rfl)) rfl (lt_b rfl) ?_
      refine GoT.q rfl (QEx.lenL rfl ⟨_, Try.underlying27⟩ (.tmp rfl)) rfl (lt_b rfl) ?_
      refine GoT.q rfl (QEx.as (iAV 0) (QEx.move rfl .con)) rfl (lt_b rfl) ?_
      refine GoT.nil ?_
      refine Wp.block ?_
      refine Wp.loop2 (fun v3 v4 => ⟨[(2, (.ptr 2 0)), (3, (slT 3 0 4 MassData.av v3)), (10, ((slAV 10 Fixture.av) fixtures)), (11, (iAV ((fixtures).length : Int))), (12, (iAV v4))], [(2, .cells (MassData.cells MassData.zero))], [5, 6, 10, 19, 25, 26, 28]⟩) (fun n v3 v4 => massdata_OfFixtures_l2 fixtures massdata_OfFixtures_j3 n v3 v4 = some r) fuel ([] : List MassData) 0 [] [] h (LS.to.mk (.r rfl rfl (.r rfl rfl (.b rfl rfl (.b rfl rfl (.b rfl rfl .n))))) (.b rfl rfl rfl .n) rfl) ?_
      rintro (_ | n2) v3 v4 h
      · exact none_e h
      rw [massdata_OfFixtures_l2] at h
      refine Wp.seq ?_
      refine Wp.region ?_
      refine GoT.q rfl (QEx.lssK rfl (.tmp rfl) (.tmp rfl)) rfl (lt_b rfl) ?_
      refine GoT.nil ?_
      refine Wp.seq ?_
      refine Wp.condS h rfl (fun h => ?_) (fun h => ?_)
      · refine Wp.skip ?_
        refine Wp.join1 (fun v5 => ⟨[(2, (.ptr 2 0)), (3, (slT 3 0 4 MassData.av v5)), (10, ((slAV 10 Fixture.av) fixtures)), (11, (iAV ((fixtures).length : Int))), (12, (iAV v4))], [(2, .cells (MassData.cells MassData.zero))], [5, 6, 10, 19, 25, 26, 28]⟩) (fun v5 => (massdata_OfFixtures_j1 v4 (massdata_OfFixtures_l2 fixtures massdata_OfFixtures_j3 n2)) v5 = some r) ?_ ?_
        · intro v5 h
          refine let_e h fun x11 hx11 h => ?_
          refine Wp.region ?_
          refine GoT.q rfl (QEx.addK rfl (.tmp rfl) .con) rfl (lt_b rfl) ?_
          refine GoT.q rfl (QEx.eq (QEx.move rfl (.tmp rfl)) (congrArg iAV hx11)) rfl (lt_b rfl) ?_
          refine GoT.nil ?_
          exact Round2.mk v5 x11 [] [] h (LS.to.mk (.r rfl rfl (.r rfl rfl (.b rfl rfl (.b rfl rfl (.b rfl rfl .n))))) (.b rfl rfl rfl .n) rfl)
        · refine Wp.block ?_
          refine chk_e h fun c6 h => ?_
          refine let_e h fun x7 hx7 h => ?_
          refine Wp.seq ?_
          refine Wp.region ?_
          refine GoT.q rfl (QEx.as (.cptr (Fixture.cells (ix fixtures v4))) (QEx.idxL (E := Fixture.av) rfl et27 (.tmp rfl) (.tmp rfl) c6)) rfl (lt_b rfl) ?_
          refine GoT.q rfl (QEx.ldC (x := (Fixture.av (ix fixtures v4))) rfl ag39 ts39 (.tmp rfl) (.inl ⟨rfl, rfl, rfl⟩)) rfl (lt_b rfl) ?_
          refine GoT.a rfl (AEx.alZ rfl zt39 rfl rfl) rfl (lt_b rfl) ?_
          refine GoT.s rfl (AEx.sto (Z := (Fixture.cells x7)) rfl rfl ts39 (.tmp rfl) rfl (.tmp rfl) rfl rfl (le_b rfl) (congrArg (fun (x : Fixture) => (Fixture.cells x)) hx7)) rfl ?_
          refine GoT.nil ?_
          refine Wp.seq ?_
          refine Wp.region ?_
          refine GoT.q rfl (QEx.fldP 6 rfl Try.underlying39 rfl ts4 rfl (.tmp rfl) rfl) rfl (lt_b rfl) ?_
          refine GoT.qr rfl rfl (QEx.ldP1 (Fixture.cells x7) (boolAV x7.Sensor) rfl ag4 (.tmp rfl) rfl) rfl (lt_b rfl) ?_
          refine GoT.q rfl (QEx.notK rfl (.tmp rfl)) rfl (lt_b rfl) ?_
          refine GoT.nil ?_
          refine Wp.condS h rfl (fun h => ?_) (fun h => ?_)
          · refine bind_e h fun r8 hr8 h => ?_
            refine chk_e h fun c9 h => ?_
            refine let_e h fun x10 hx10 h => ?_
            refine Wp.region ?_
            refine GoT.q rfl (QEx.move rfl (.tmp rfl)) rfl (lt_b rfl) ?_
            refine GoT.q rfl (QEx.fldP 0 rfl Try.underlying39 rfl ts37 rfl (.tmp rfl) rfl) rfl (lt_b rfl) ?_
            refine GoT.qr rfl rfl (QEx.ldP (Fixture.cells x7) (Shape.av x7.Shape) rfl ag37 ts37 (.tmp rfl) (le_b rfl) rfl) rfl (lt_b rfl) ?_
            refine GoT.q rfl (QEx.fldP 3 rfl Try.underlying39 rfl ts3 rfl (.tmp rfl) rfl) rfl (lt_b rfl) ?_
            refine GoT.qr rfl rfl (QEx.ldP1 (Fixture.cells x7) (iAV x7.Density) rfl ag3 (.tmp rfl) rfl) rfl (lt_b rfl) ?_
            refine GoT.q rfl (QEx.cal0 (r := (MassData.av r8)) [(Shape.av x7.Shape), (iAV x7.Density)] rfl Try.call93 (.cons (.tmp rfl) (.cons (.tmp rfl) .nil)) (massdata_OfShape_ok hr8) rfl rfl) rfl (lt_b rfl) ?_
            refine GoT.q rfl (QEx.as (slT 25 0 4 MassData.av ([r8] : List MassData)) (QEx.buildSlice rfl et114 (.cons (.tmp rfl) rfl rfl rfl .nil) rfl (by decide))) rfl (lt_b rfl) ?_
            refine GoT.a rfl (AEx.appL (E := MassData.av) rfl et114 (.tmp rfl) (.tmp rfl) rfl c9 rfl rfl hx10 (by decide)) rfl (lt_b rfl) ?_
            refine GoT.q rfl (QEx.assign rfl (.tmp rfl)) rfl (lt_b rfl) ?_
            refine GoT.nil ?_
            exact Joined1.mk x10 [5] [(26, 3)] h (LS.to.mk (.r rfl rfl (.r rfl rfl (.b rfl rfl (.b rfl rfl (.b rfl rfl .n))))) (.b rfl rfl rfl .n) rfl)
          · refine Wp.skip ?_
            exact Joined1.mk v3 [5] [] h (LS.to.mk (.r rfl rfl (.r rfl rfl (.b rfl rfl (.b rfl rfl (.b rfl rfl .n))))) (.b rfl rfl rfl .n) rfl)
      · refine Wp.exit ?_
        exact Joined1.mk v3 [] [] h (LS.to.mk (.r rfl rfl (.r rfl rfl .n)) (.b rfl rfl rfl .n) rfl)
theorem body_MassData_ok {b : Body} {r : MassData} (h : body_MassData b = some r) : FnR Try.prog 49 [(Body.av b)] (MassData.av r) := by
  refine FnR.intro' (fn := Try.f49) (N := 6) Try.func49 rfl rfl (Nat.le_of_ble_eq_true rfl) [1, 2] ?_
  refine Wp.seq ?_
  refine Wp.region ?_
  refine GoT.a rfl (AEx.bx (Z := (Body.cells b)) rfl (.tmp rfl) rfl rfl rfl rfl) rfl (lt_b rfl) ?_
  refine GoT.a rfl (AEx.alZ rfl zt78 rfl rfl) rfl (lt_b rfl) ?_
  refine GoT.nil ?_
  refine bind_e h fun r1 hr1 h => ?_
  refine let_e h fun x2 hx2 h => ?_
  refine Wp.seq ?_
  refine Wp.region ?_
  refine GoT.q rfl (QEx.fldP 19 rfl Try.underlying29 rfl ts27 rfl (.tmp rfl) rfl) rfl (lt_b rfl) ?_
  refine GoT.qr rfl rfl (QEx.ldP1 (Body.cells b) ((slAV 10 Fixture.av) b.Fixtures) rfl ag27 (.tmp rfl) rfl) rfl (lt_b rfl) ?_
  refine GoT.q rfl (QEx.cal0 (r := (MassData.av r1)) [((slAV 10 Fixture.av) b.Fixtures)] rfl Try.call73 (.cons (.tmp rfl) .nil) (massdata_OfFixtures_ok hr1) rfl rfl) rfl (lt_b rfl) ?_
  refine GoT.s rfl (AEx.sto (Z := (MassData.cells x2)) rfl rfl ts78 (.tmp rfl) rfl (.tmp rfl) rfl rfl (le_b rfl) (congrArg (fun (x : MassData) => (MassData.cells x)) hx2)) rfl ?_
  refine GoT.nil ?_
  refine Wp.ret ?_
  cases h
  exact LeafQ.ret [] (by decide) (.cons (.agg rfl rfl ag78 ts78) .nil) rfl
theorem angle_Normalize_ok {a : Int} {r : Int} (h : angle_Normalize a = r) : FnR Try.prog 101 [(iAV a)] (iAV r) := by
  refine FnR.intro' (fn := Try.f101) (N := 16) Try.func101 rfl rfl (Nat.le_of_ble_eq_true rfl) [] ?_
  refine Wp.seq ?_
  refine Wp.region ?_
  refine GoT.q rfl (QEx.as (iAV 0) (QEx.assign rfl .con)) rfl (lt_b rfl) ?_
  refine GoT.nil ?_
  refine let_e h fun x1 hx1 h => ?_
  refine Wp.seq ?_
  refine Wp.region ?_
  refine GoT.q rfl (QEx.move rfl (.tmp rfl)) rfl (lt_b rfl) ?_
  refine GoT.q rfl (QEx.remK rfl (.tmp rfl) .con (by decide)) rfl (lt_b rfl) ?_
  refine GoT.q rfl (QEx.eq (QEx.assign rfl (.tmp rfl)) (congrArg iAV hx1)) rfl (lt_b rfl) ?_
  refine GoT.nil ?_
  refine Wp.seq ?_
  refine Wp.block ?_
  refine let_e h fun x2 hx2 h => ?_
  refine Wp.seq ?_
  refine Wp.region ?_
  refine GoT.q rfl (QEx.move rfl (.tmp rfl)) rfl (lt_b rfl) ?_
  refine GoT.q rfl (QEx.geqK rfl (.tmp rfl) .con) rfl (lt_b rfl) ?_
  refine GoT.q rfl (QEx.eq (QEx.assign rfl (.tmp rfl)) (congrArg boolAV hx2)) rfl (lt_b rfl) ?_
  refine GoT.nil ?_
  refine Wp.condS h rfl (fun h => ?_) (fun h => ?_)
  · refine let_e h fun x3 hx3 h => ?_
    refine Wp.seq ?_
    refine Wp.region ?_
    refine GoT.q rfl (QEx.move rfl (.tmp rfl)) rfl (lt_b rfl) ?_
    refine GoT.q rfl (QEx.subK rfl (.tmp rfl) .con) rfl (lt_b rfl) ?_
    refine GoT.q rfl (QEx.eq (QEx.assign rfl (.tmp rfl)) (congrArg iAV hx3)) rfl (lt_b rfl) ?_
    refine GoT.nil ?_
    refine Wp.ret ?_
    cases h
    exact LeafQ.ret [] (by decide) (.cons (.tmp rfl) .nil) rfl
  · refine let_e h fun x4 hx4 h => ?_
    refine Wp.seq ?_
    refine Wp.region ?_
    refine GoT.q rfl (QEx.move rfl (.tmp rfl)) rfl (lt_b rfl) ?_
    refine GoT.q rfl (QEx.lssK rfl (.tmp rfl) .con) rfl (lt_b rfl) ?_
    refine GoT.q rfl (QEx.eq (QEx.assign rfl (.tmp rfl)) (congrArg boolAV hx4)) rfl (lt_b rfl) ?_
    refine GoT.nil ?_
    refine Wp.condS h rfl (fun h => ?_) (fun h => ?_)
    · refine let_e h fun x5 hx5 h => ?_
      refine Wp.seq ?_
      refine Wp.region ?_
      refine GoT.q rfl (QEx.move rfl (.tmp rfl)) rfl (lt_b rfl) ?_
      refine GoT.q rfl (QEx.addK rfl (.tmp rfl) .con) rfl (lt_b rfl) ?_
      refine GoT.q rfl (QEx.eq (QEx.assign rfl (.tmp rfl)) (congrArg iAV hx5)) rfl (lt_b rfl) ?_
      refine GoT.nil ?_
      refine Wp.ret ?_
      cases h
      exact LeafQ.ret [] (by decide) (.cons (.tmp rfl) .nil) rfl
    · refine Wp.skip ?_
      refine Wp.seq ?_
      refine Wp.region ?_
      refine GoT.q rfl (QEx.move rfl (.tmp rfl)) rfl (lt_b rfl) ?_
      refine GoT.q rfl (QEx.assign rfl (.tmp rfl)) rfl (lt_b rfl) ?_
      refine GoT.nil ?_
      refine Wp.ret ?_
      cases h
      exact LeafQ.ret [] (by decide) (.cons (.tmp rfl) .nil) rfl
theorem angle_abs_ok {x_0 : Int} {r : Int} (h : angle_abs x_0 = r) : FnR Try.prog 100 [(iAV x_0)] (iAV r) := by
  refine FnR.intro' (fn := Try.f100) (N := 8) Try.func100 rfl rfl (Nat.le_of_ble_eq_true rfl) [] ?_
  refine Wp.seq ?_
  refine Wp.region ?_
  refine GoT.q rfl (QEx.as (iAV 0) (QEx.assign rfl .con)) rfl (lt_b rfl) ?_
  refine GoT.nil ?_
  refine Wp.seq ?_
  refine Wp.seq ?_
  refine Wp.region ?_
  refine GoT.q rfl (QEx.move rfl (.tmp rfl)) rfl (lt_b rfl) ?_
  refine GoT.q rfl (QEx.lssK rfl (.tmp rfl) .con) rfl (lt_b rfl) ?_
  refine GoT.nil ?_
  refine Wp.condS h rfl (fun h => ?_) (fun h => ?_)
  · refine let_e h fun x1 hx1 h => ?_
    refine Wp.seq ?_
    refine Wp.region ?_
    refine GoT.q rfl (QEx.move rfl (.tmp rfl)) rfl (lt_b rfl) ?_
    refine GoT.q rfl (QEx.negK rfl (.tmp rfl)) rfl (lt_b rfl) ?_
    refine GoT.q rfl (QEx.eq (QEx.assign rfl (.tmp rfl)) (congrArg iAV hx1)) rfl (lt_b rfl) ?_
    refine GoT.nil ?_
    refine Wp.ret ?_
    cases h
    exact LeafQ.ret [] (by decide) (.cons (.tmp rfl) .nil) rfl
  · refine Wp.skip ?_
    refine Wp.seq ?_
    refine Wp.region ?_
    refine GoT.q rfl (QEx.move rfl (.tmp rfl)) rfl (lt_b rfl) ?_
    refine GoT.q rfl (QEx.assign rfl (.tmp rfl)) rfl (lt_b rfl) ?_
    refine GoT.nil ?_
    refine Wp.ret ?_
    cases h
    exact LeafQ.ret [] (by decide) (.cons (.tmp rfl) .nil) rfl
theorem fixed_Clamp_ok {x_0 : Int} {low : Int} {high : Int} {r : Int} (h : fixed_Clamp x_0 low high = r) : FnR Try.prog 38 [(iAV x_0), (iAV low), (iAV high)] (iAV r) := by
  refine FnR.intro' (fn := Try.f38) (N := 23) Try.func38 rfl rfl (Nat.le_of_ble_eq_true rfl) [] ?_
  refine Wp.seq ?_
  refine Wp.region ?_
  refine GoT.q rfl (QEx.as (iAV 0) (QEx.assign rfl .con)) rfl (lt_b rfl) ?_
  refine GoT.nil ?_
  refine Wp.seq ?_
  refine Wp.block ?_
  refine let_e h fun x1 hx1 h => ?_
  refine Wp.seq ?_
  refine Wp.region ?_
  refine GoT.q rfl (QEx.move rfl (.tmp rfl)) rfl (lt_b rfl) ?_
  refine GoT.q rfl (QEx.move rfl (.tmp rfl)) rfl (lt_b rfl) ?_
  refine GoT.q rfl (QEx.gtrK rfl (.tmp rfl) (.tmp rfl)) rfl (lt_b rfl) ?_
  refine GoT.q rfl (QEx.move rfl (.tmp rfl)) rfl (lt_b rfl) ?_
  refine GoT.g rfl rfl rfl (fun hg => QEx.move rfl (.tmp rfl)) rfl (lt_b rfl) ?_
  refine GoT.g rfl rfl rfl (fun hg => QEx.move rfl (.tmp rfl)) rfl (lt_b rfl) ?_
  refine GoT.g rfl rfl rfl (fun hg => QEx.lssK rfl (.opt (.tmp rfl) hg) (.opt (.tmp rfl) hg)) rfl (lt_b rfl) ?_
  refine GoT.q rfl (QEx.pickK rfl (.tmp rfl) (fun hp => .con) (fun hp => (.opt (.tmp rfl) (beq_f hp)))) rfl (lt_b rfl) ?_
  refine GoT.q rfl (QEx.eq (QEx.assign rfl (.tmp rfl)) (congrArg boolAV hx1)) rfl (lt_b rfl) ?_
  refine GoT.nil ?_
  refine Wp.condS h rfl (fun h => ?_) (fun h => ?_)
  · refine Wp.seq ?_
    refine Wp.region ?_
    refine GoT.q rfl (QEx.move rfl (.tmp rfl)) rfl (lt_b rfl) ?_
    refine GoT.q rfl (QEx.assign rfl (.tmp rfl)) rfl (lt_b rfl) ?_
    refine GoT.nil ?_
    refine Wp.ret ?_
    cases h
    exact LeafQ.ret [] (by decide) (.cons (.tmp rfl) .nil) rfl
  · refine let_e h fun x2 hx2 h => ?_
    refine Wp.seq ?_
    refine Wp.region ?_
    refine GoT.q rfl (QEx.move rfl (.tmp rfl)) rfl (lt_b rfl) ?_
    refine GoT.q rfl (QEx.move rfl (.tmp rfl)) rfl (lt_b rfl) ?_
    refine GoT.q rfl (QEx.gtrK rfl (.tmp rfl) (.tmp rfl)) rfl (lt_b rfl) ?_
    refine GoT.q rfl (QEx.eq (QEx.assign rfl (.tmp rfl)) (congrArg boolAV hx2)) rfl (lt_b rfl) ?_
    refine GoT.nil ?_
    refine Wp.condS h rfl (fun h => ?_) (fun h => ?_)
    · refine Wp.seq ?_
      refine Wp.region ?_
      refine GoT.q rfl (QEx.move rfl (.tmp rfl)) rfl (lt_b rfl) ?_
      refine GoT.q rfl (QEx.assign rfl (.tmp rfl)) rfl (lt_b rfl) ?_
      refine GoT.nil ?_
      refine Wp.ret ?_
      cases h
      exact LeafQ.ret [] (by decide) (.cons (.tmp rfl) .nil) rfl
    · refine Wp.skip ?_
      refine Wp.seq ?_
      refine Wp.region ?_
      refine GoT.q rfl (QEx.move rfl (.tmp rfl)) rfl (lt_b rfl) ?_
      refine GoT.q rfl (QEx.assign rfl (.tmp rfl)) rfl (lt_b rfl) ?_
      refine GoT.nil ?_
      refine Wp.ret ?_
      cases h
      exact LeafQ.ret [] (by decide) (.cons (.tmp rfl) .nil) rfl
theorem fixed_Div_ok {a : Int} {b : Int} {r : Int} (h : fixed_Div a b = some r) : FnR Try.prog 76 [(iAV a), (iAV b)] (iAV r) := by
  refine FnR.intro' (fn := Try.f76) (N := 29) Try.func76 rfl rfl (Nat.le_of_ble_eq_true rfl) [] ?_
  refine Wp.seq ?_
  refine Wp.region ?_
  refine GoT.q rfl (QEx.as (iAV 0) (QEx.assign rfl .con)) rfl (lt_b rfl) ?_
  refine GoT.nil ?_
  refine let_e h fun r1 hr1 h => ?_
  refine let_e h fun r2 hr2 h => ?_
  refine let_e h fun x3 hx3 h => ?_
  refine Wp.seq ?_
  refine Wp.region ?_
  refine GoT.q rfl (QEx.move rfl (.tmp rfl)) rfl (lt_b rfl) ?_
  refine GoT.q rfl (QEx.cal0 (r := (iAV r1)) [(iAV a)] rfl Try.call54 (.cons (.tmp rfl) .nil) (fixed_Saturate_ok hr1) rfl rfl) rfl (lt_b rfl) ?_
  refine GoT.q rfl (QEx.mulK rfl (.tmp rfl) .con) rfl (lt_b rfl) ?_
  refine GoT.q rfl (QEx.move rfl (.tmp rfl)) rfl (lt_b rfl) ?_
  refine GoT.q rfl (QEx.cal0 (r := (iAV r2)) [(iAV b)] rfl Try.call54 (.cons (.tmp rfl) .nil) (fixed_Saturate_ok hr2) rfl rfl) rfl (lt_b rfl) ?_
  refine GoT.q rfl (QEx.eq (QEx.assign rfl (.tmp rfl)) (congrArg iAV hx3)) rfl (lt_b rfl) ?_
  refine GoT.q rfl (QEx.assign rfl (.tmp rfl)) rfl (lt_b rfl) ?_
  refine GoT.nil ?_
  refine Wp.seq ?_
  refine Wp.block ?_
  refine let_e h fun x4 hx4 h => ?_
  refine Wp.seq ?_
  refine Wp.region ?_
  refine GoT.q rfl (QEx.move rfl (.tmp rfl)) rfl (lt_b rfl) ?_
  refine GoT.q rfl (QEx.eqlK rfl (.tmp rfl) .con) rfl (lt_b rfl) ?_
  refine GoT.q rfl (QEx.eq (QEx.assign rfl (.tmp rfl)) (congrArg boolAV hx4)) rfl (lt_b rfl) ?_
  refine GoT.nil ?_
  refine Wp.condS h rfl (fun h => ?_) (fun h => ?_)
  · refine let_e h fun r5 hr5 h => ?_
    refine let_e h fun x6 hx6 h => ?_
    refine Wp.seq ?_
    refine Wp.region ?_
    refine GoT.q rfl (QEx.move rfl (.tmp rfl)) rfl (lt_b rfl) ?_
    refine GoT.q rfl (QEx.cal0 (r := (iAV r5)) [(iAV x3), (iAV (-1)), (iAV 1)] rfl Try.call38 (.cons (.tmp rfl) (.cons .con (.cons .con .nil))) (fixed_Clamp_ok hr5) rfl rfl) rfl (lt_b rfl) ?_
    refine GoT.q rfl (QEx.mulK rfl (.tmp rfl) .con) rfl (lt_b rfl) ?_
    refine GoT.q rfl (QEx.eq (QEx.assign rfl (.tmp rfl)) (congrArg iAV hx6)) rfl (lt_b rfl) ?_
    refine GoT.nil ?_
    refine Wp.ret ?_
    cases h
    exact LeafQ.ret [] (by decide) (.cons (.tmp rfl) .nil) rfl
  · refine let_e h fun x7 hx7 h => ?_
    refine Wp.seq ?_
    refine Wp.region ?_
    refine GoT.q rfl (QEx.move rfl (.tmp rfl)) rfl (lt_b rfl) ?_
    refine GoT.q rfl (QEx.lssK rfl (.tmp rfl) .con) rfl (lt_b rfl) ?_
    refine GoT.q rfl (QEx.eq (QEx.assign rfl (.tmp rfl)) (congrArg boolAV hx7)) rfl (lt_b rfl) ?_
    refine GoT.nil ?_
    refine Wp.condS h rfl (fun h => ?_) (fun h => ?_)
    · refine let_e h fun x8 hx8 h => ?_
      refine let_e h fun x9 hx9 h => ?_
      refine Wp.region ?_
      refine GoT.q rfl (QEx.move rfl (.tmp rfl)) rfl (lt_b rfl) ?_
      refine GoT.q rfl (QEx.negK rfl (.tmp rfl)) rfl (lt_b rfl) ?_
      refine GoT.q rfl (QEx.move rfl (.tmp rfl)) rfl (lt_b rfl) ?_
      refine GoT.q rfl (QEx.negK rfl (.tmp rfl)) rfl (lt_b rfl) ?_
      refine GoT.q rfl (QEx.eq (QEx.assign rfl (.tmp rfl)) (congrArg iAV hx8)) rfl (lt_b rfl) ?_
      refine GoT.q rfl (QEx.eq (QEx.assign rfl (.tmp rfl)) (congrArg iAV hx9)) rfl (lt_b rfl) ?_
      refine GoT.nil ?_
      refine bind_e h fun r10 hr10 h => ?_
      refine let_e h fun r11 hr11 h => ?_
      refine Wp.seq ?_
      refine Wp.region ?_
      refine GoT.q rfl (QEx.move rfl (.tmp rfl)) rfl (lt_b rfl) ?_
      refine GoT.q rfl (QEx.move rfl (.tmp rfl)) rfl (lt_b rfl) ?_
      refine GoT.q rfl (QEx.cal0 (r := (iAV r10)) [(iAV x8), (iAV x9)] rfl Try.call55 (.cons (.tmp rfl) (.cons (.tmp rfl) .nil)) (fixed_RoundDiv_ok hr10) rfl rfl) rfl (lt_b rfl) ?_
      refine GoT.q rfl (QEx.cal0 (r := (iAV r11)) [(iAV r10)] rfl Try.call54 (.cons (.tmp rfl) .nil) (fixed_Saturate_ok hr11) rfl rfl) rfl (lt_b rfl) ?_
      refine GoT.q rfl (QEx.assign rfl (.tmp rfl)) rfl (lt_b rfl) ?_
      refine GoT.nil ?_
      refine Wp.ret ?_
      cases h
      exact LeafQ.ret [] (by decide) (.cons (.tmp rfl) .nil) rfl
    · refine Wp.skip ?_
      refine bind_e h fun r12 hr12 h => ?_
      refine let_e h fun r13 hr13 h => ?_
      refine Wp.seq ?_
      refine Wp.region ?_
      refine GoT.q rfl (QEx.move rfl (.tmp rfl)) rfl (lt_b rfl) ?_
      refine GoT.q rfl (QEx.move rfl (.tmp rfl)) rfl (lt_b rfl) ?_
      refine GoT.q rfl (QEx.cal0 (r := (iAV r12)) [(iAV x3), (iAV r2)] rfl Try.call55 (.cons (.tmp rfl) (.cons (.tmp rfl) .nil)) (fixed_RoundDiv_ok hr12) rfl rfl) rfl (lt_b rfl) ?_
      refine GoT.q rfl (QEx.cal0 (r := (iAV r13)) [(iAV r12)] rfl Try.call54 (.cons (.tmp rfl) .nil) (fixed_Saturate_ok hr13) rfl rfl) rfl (lt_b rfl) ?_
      refine GoT.q rfl (QEx.assign rfl (.tmp rfl)) rfl (lt_b rfl) ?_
      refine GoT.nil ?_
      refine Wp.ret ?_
      cases h
      exact LeafQ.ret [] (by decide) (.cons (.tmp rfl) .nil) rfl
theorem angle_Sin_ok {a : Int} {r : Int} (h : angle_Sin a = some r) : FnR Try.prog 92 [(iAV a)] (iAV r) := by
  refine FnR.intro' (fn := Try.f92) (N := 35) Try.func92 rfl rfl (Nat.le_of_ble_eq_true rfl) [] ?_
  refine Wp.seq ?_
  refine Wp.region ?_
  refine GoT.q rfl (QEx.as (iAV 0) (QEx.assign rfl .con)) rfl (lt_b rfl) ?_
  refine GoT.nil ?_
  refine let_e h fun r1 hr1 h => ?_
  refine Wp.seq ?_
  refine Wp.region ?_
  refine GoT.q rfl (QEx.move rfl (.tmp rfl)) rfl (lt_b rfl) ?_
  refine GoT.q rfl (QEx.cal0 (r := (iAV r1)) [(iAV a)] rfl Try.call101 (.cons (.tmp rfl) .nil) (angle_Normalize_ok hr1) rfl rfl) rfl (lt_b rfl) ?_
  refine GoT.q rfl (QEx.assign rfl (.tmp rfl)) rfl (lt_b rfl) ?_
  refine GoT.nil ?_
  refine let_e h fun r2 hr2 h => ?_
  refine Wp.seq ?_
  refine Wp.region ?_
  refine GoT.q rfl (QEx.move rfl (.tmp rfl)) rfl (lt_b rfl) ?_
  refine GoT.q rfl (QEx.cal0 (r := (iAV r2)) [(iAV r1)] rfl Try.call100 (.cons (.tmp rfl) .nil) (angle_abs_ok hr2) rfl rfl) rfl (lt_b rfl) ?_
  refine GoT.q rfl (QEx.assign rfl (.tmp rfl)) rfl (lt_b rfl) ?_
  refine GoT.nil ?_
  refine Wp.join1 (fun v3 => ⟨[(0, (iAV r1)), (3, (iAV v3))], [], []⟩) (fun v3 => (angle_Sin_j1 r1) v3 = some r) ?_ ?_
  · intro v3 h
    refine bind_e h fun r5 hr5 h => ?_
    refine Wp.seq ?_
    refine Wp.region ?_
    refine GoT.q rfl (QEx.move rfl (.tmp rfl)) rfl (lt_b rfl) ?_
    refine GoT.q rfl (QEx.cal0 (r := (iAV r5)) [(iAV v3), (iAV 102944)] rfl Try.call76 (.cons (.tmp rfl) (.cons .con .nil)) (fixed_Div_ok hr5) rfl rfl) rfl (lt_b rfl) ?_
    refine GoT.q rfl (QEx.assign rfl (.tmp rfl)) rfl (lt_b rfl) ?_
    refine GoT.nil ?_
    refine bind_e h fun r6 hr6 h => ?_
    refine Wp.seq ?_
    refine Wp.region ?_
    refine GoT.q rfl (QEx.move rfl (.tmp rfl)) rfl (lt_b rfl) ?_
    refine GoT.q rfl (QEx.move rfl (.tmp rfl)) rfl (lt_b rfl) ?_
    refine GoT.q rfl (QEx.cal0 (r := (iAV r6)) [(iAV r5), (iAV r5)] rfl Try.call32 (.cons (.tmp rfl) (.cons (.tmp rfl) .nil)) (fixed_Mul_ok hr6) rfl rfl) rfl (lt_b rfl) ?_
    refine GoT.q rfl (QEx.assign rfl (.tmp rfl)) rfl (lt_b rfl) ?_
    refine GoT.nil ?_
    refine bind_e h fun r7 hr7 h => ?_
    refine let_e h fun r8 hr8 h => ?_
    refine Wp.seq ?_
    refine Wp.region ?_
    refine GoT.q rfl (QEx.move rfl (.tmp rfl)) rfl (lt_b rfl) ?_
    refine GoT.q rfl (QEx.cal0 (r := (iAV r7)) [(iAV r6), (iAV 4569)] rfl Try.call32 (.cons (.tmp rfl) (.cons .con .nil)) (fixed_Mul_ok hr7) rfl rfl) rfl (lt_b rfl) ?_
    refine GoT.q rfl (QEx.cal0 (r := (iAV r8)) [(iAV 41906), (iAV r7)] rfl Try.call47 (.cons .con (.cons (.tmp rfl) .nil)) (fixed_Sub_ok hr8) rfl rfl) rfl (lt_b rfl) ?_
    refine GoT.q rfl (QEx.assign rfl (.tmp rfl)) rfl (lt_b rfl) ?_
    refine GoT.nil ?_
    refine bind_e h fun r9 hr9 h => ?_
    refine let_e h fun r10 hr10 h => ?_
    refine bind_e h fun r11 hr11 h => ?_
    refine Wp.seq ?_
    refine Wp.region ?_
    refine GoT.q rfl (QEx.move rfl (.tmp rfl)) rfl (lt_b rfl) ?_
    refine GoT.q rfl (QEx.move rfl (.tmp rfl)) rfl (lt_b rfl) ?_
    refine GoT.q rfl (QEx.move rfl (.tmp rfl)) rfl (lt_b rfl) ?_
    refine GoT.q rfl (QEx.cal0 (r := (iAV r9)) [(iAV r6), (iAV r8)] rfl Try.call32 (.cons (.tmp rfl) (.cons (.tmp rfl) .nil)) (fixed_Mul_ok hr9) rfl rfl) rfl (lt_b rfl) ?_
    refine GoT.q rfl (QEx.cal0 (r := (iAV r10)) [(iAV 102873), (iAV r9)] rfl Try.call47 (.cons .con (.cons (.tmp rfl) .nil)) (fixed_Sub_ok hr10) rfl rfl) rfl (lt_b rfl) ?_
    refine GoT.q rfl (QEx.cal0 (r := (iAV r11)) [(iAV r5), (iAV r10)] rfl Try.call32 (.cons (.tmp rfl) (.cons (.tmp rfl) .nil)) (fixed_Mul_ok hr11) rfl rfl) rfl (lt_b rfl) ?_
    refine GoT.q rfl (QEx.assign rfl (.tmp rfl)) rfl (lt_b rfl) ?_
    refine GoT.nil ?_
    refine Wp.seq ?_
    refine Wp.seq ?_
    refine Wp.region ?_
    refine GoT.q rfl (QEx.move rfl (.tmp rfl)) rfl (lt_b rfl) ?_
    refine GoT.q rfl (QEx.lssK rfl (.tmp rfl) .con) rfl (lt_b rfl) ?_
    refine GoT.nil ?_
    refine Wp.condS h rfl (fun h => ?_) (fun h => ?_)
    · refine let_e h fun x12 hx12 h => ?_
      refine Wp.seq ?_
      refine Wp.region ?_
      refine GoT.q rfl (QEx.move rfl (.tmp rfl)) rfl (lt_b rfl) ?_
      refine GoT.q rfl (QEx.negK rfl (.tmp rfl)) rfl (lt_b rfl) ?_
      refine GoT.q rfl (QEx.eq (QEx.assign rfl (.tmp rfl)) (congrArg iAV hx12)) rfl (lt_b rfl) ?_
      refine GoT.nil ?_
      refine Wp.ret ?_
      cases h
      exact LeafQ.ret [] (by decide) (.cons (.tmp rfl) .nil) rfl
    · refine Wp.skip ?_
      refine Wp.seq ?_
      refine Wp.region ?_
      refine GoT.q rfl (QEx.move rfl (.tmp rfl)) rfl (lt_b rfl) ?_
      refine GoT.q rfl (QEx.assign rfl (.tmp rfl)) rfl (lt_b rfl) ?_
      refine GoT.nil ?_
      refine Wp.ret ?_
      cases h
      exact LeafQ.ret [] (by decide) (.cons (.tmp rfl) .nil) rfl
  · refine Wp.seq ?_
    refine Wp.region ?_
    refine GoT.q rfl (QEx.move rfl (.tmp rfl)) rfl (lt_b rfl) ?_
    refine GoT.q rfl (QEx.gtrK rfl (.tmp rfl) .con) rfl (lt_b rfl) ?_
    refine GoT.nil ?_
    refine Wp.condS h rfl (fun h => ?_) (fun h => ?_)
    · refine let_e h fun x4 hx4 h => ?_
      refine Wp.region ?_
      refine GoT.q rfl (QEx.move rfl (.tmp rfl)) rfl (lt_b rfl) ?_
      refine GoT.q rfl (QEx.subK rfl .con (.tmp rfl)) rfl (lt_b rfl) ?_
      refine GoT.q rfl (QEx.eq (QEx.assign rfl (.tmp rfl)) (congrArg iAV hx4)) rfl (lt_b rfl) ?_
      refine GoT.nil ?_
      exact Joined1.mk x4 [] [] h (LS.to.mk (.b rfl rfl (.b rfl rfl .n)) .n rfl)
    · refine Wp.skip ?_
      exact Joined1.mk r2 [] [] h (LS.to.mk (.b rfl rfl (.b rfl rfl .n)) .n rfl)
theorem angle_Cos_ok {a : Int} {r : Int} (h : angle_Cos a = some r) : FnR Try.prog 91 [(iAV a)] (iAV r) := by
  refine FnR.intro' (fn := Try.f91) (N := 8) Try.func91 rfl rfl (Nat.le_of_ble_eq_true rfl) [] ?_
  refine Wp.seq ?_
  refine Wp.region ?_
  refine GoT.q rfl (QEx.as (iAV 0) (QEx.assign rfl .con)) rfl (lt_b rfl) ?_
  refine GoT.nil ?_
  refine let_e h fun r1 hr1 h => ?_
  refine let_e h fun r2 hr2 h => ?_
  refine bind_e h fun r3 hr3 h => ?_
  refine Wp.seq ?_
  refine Wp.region ?_
  refine GoT.q rfl (QEx.move rfl (.tmp rfl)) rfl (lt_b rfl) ?_
  refine GoT.q rfl (QEx.cal0 (r := (iAV r1)) [(iAV a)] rfl Try.call101 (.cons (.tmp rfl) .nil) (angle_Normalize_ok hr1) rfl rfl) rfl (lt_b rfl) ?_
  refine GoT.q rfl (QEx.cal0 (r := (iAV r2)) [(iAV r1)] rfl Try.call100 (.cons (.tmp rfl) .nil) (angle_abs_ok hr2) rfl rfl) rfl (lt_b rfl) ?_
  refine GoT.q rfl (QEx.subK rfl .con (.tmp rfl)) rfl (lt_b rfl) ?_
  refine GoT.q rfl (QEx.cal0 (r := (iAV r3)) [(iAV (w64 (102944 - r2)))] rfl Try.call92 (.cons (.tmp rfl) .nil) (angle_Sin_ok hr3) rfl rfl) rfl (lt_b rfl) ?_
  refine GoT.q rfl (QEx.assign rfl (.tmp rfl)) rfl (lt_b rfl) ?_
  refine GoT.nil ?_
  refine Wp.ret ?_
  cases h
  exact LeafQ.ret [] (by decide) (.cons (.tmp rfl) .nil) rfl
theorem angle_Rot_ok {a : Int} {r : Rot} (h : angle_Rot a = some r) : FnR Try.prog 72 [(iAV a)] (Rot.av r) := by
  refine FnR.intro' (fn := Try.f72) (N := 25) Try.func72 rfl rfl (Nat.le_of_ble_eq_true rfl) [2] ?_
  refine Wp.seq ?_
  refine Wp.region ?_
  refine GoT.a rfl (AEx.alZ rfl zt96 rfl rfl) rfl (lt_b rfl) ?_
  refine GoT.nil ?_
  refine bind_e h fun r1 hr1 h => ?_
  refine bind_e h fun r2 hr2 h => ?_
  refine Wp.seq ?_
  refine Wp.region ?_
  refine GoT.q rfl (QEx.move rfl (.tmp rfl)) rfl (lt_b rfl) ?_
  refine GoT.q rfl (QEx.cal0 (r := (iAV r1)) [(iAV a)] rfl Try.call91 (.cons (.tmp rfl) .nil) (angle_Cos_ok hr1) rfl rfl) rfl (lt_b rfl) ?_
  refine GoT.q rfl (QEx.move rfl (.tmp rfl)) rfl (lt_b rfl) ?_
  refine GoT.q rfl (QEx.cal0 (r := (iAV r2)) [(iAV a)] rfl Try.call92 (.cons (.tmp rfl) .nil) (angle_Sin_ok hr2) rfl rfl) rfl (lt_b rfl) ?_
  refine GoT.q rfl (QEx.assign rfl (.tmp rfl)) rfl (lt_b rfl) ?_
  refine GoT.q rfl (QEx.assign rfl (.tmp rfl)) rfl (lt_b rfl) ?_
  refine GoT.nil ?_
  refine bind_e h fun r3 hr3 h => ?_
  refine Wp.seq ?_
  refine Wp.region ?_
  refine GoT.q rfl (QEx.move rfl (.tmp rfl)) rfl (lt_b rfl) ?_
  refine GoT.q rfl (QEx.move rfl (.tmp rfl)) rfl (lt_b rfl) ?_
  refine GoT.q rfl (QEx.mulK rfl (.tmp rfl) (.tmp rfl)) rfl (lt_b rfl) ?_
  refine GoT.q rfl (QEx.move rfl (.tmp rfl)) rfl (lt_b rfl) ?_
  refine GoT.q rfl (QEx.move rfl (.tmp rfl)) rfl (lt_b rfl) ?_
  refine GoT.q rfl (QEx.mulK rfl (.tmp rfl) (.tmp rfl)) rfl (lt_b rfl) ?_
  refine GoT.q rfl (QEx.addK rfl (.tmp rfl) (.tmp rfl)) rfl (lt_b rfl) ?_
  refine GoT.q rfl (QEx.cal0 (r := (iAV r3)) [(iAV (w64 ((w64 (r1 * r1)) + (w64 (r2 * r2)))))] rfl Try.call66 (.cons (.tmp rfl) .nil) (fixed_Isqrt_ok hr3) rfl rfl) rfl (lt_b rfl) ?_
  refine GoT.q rfl (QEx.assign rfl (.tmp rfl)) rfl (lt_b rfl) ?_
  refine GoT.nil ?_
  refine bind_e h fun r4 hr4 h => ?_
  refine bind_e h fun r5 hr5 h => ?_
  refine let_e h fun x6 hx6 h => ?_
  refine Wp.seq ?_
  refine Wp.region ?_
  refine GoT.q rfl (QEx.move rfl (.tmp rfl)) rfl (lt_b rfl) ?_
  refine GoT.q rfl (QEx.move rfl (.tmp rfl)) rfl (lt_b rfl) ?_
  refine GoT.q rfl (QEx.cal0 (r := (iAV r4)) [(iAV r1), (iAV r3)] rfl Try.call76 (.cons (.tmp rfl) (.cons (.tmp rfl) .nil)) (fixed_Div_ok hr4) rfl rfl) rfl (lt_b rfl) ?_
  refine GoT.q rfl (QEx.move rfl (.tmp rfl)) rfl (lt_b rfl) ?_
  refine GoT.q rfl (QEx.move rfl (.tmp rfl)) rfl (lt_b rfl) ?_
  refine GoT.q rfl (QEx.cal0 (r := (iAV r5)) [(iAV r2), (iAV r3)] rfl Try.call76 (.cons (.tmp rfl) (.cons (.tmp rfl) .nil)) (fixed_Div_ok hr5) rfl rfl) rfl (lt_b rfl) ?_
  refine GoT.q rfl (QEx.as (Rot.av (⟨r4, r5⟩ : Rot)) (QEx.buildZ rfl Try.underlying96 zt96 (by kernel_rfl) (.cons rfl (.tmp rfl) rfl rfl (le_b rfl) (.cons rfl (.tmp rfl) rfl rfl (le_b rfl) .nil)))) rfl (lt_b rfl) ?_
  refine GoT.s rfl (AEx.sto (Z := (Rot.cells x6)) rfl rfl ts96 (.tmp rfl) rfl (.tmp rfl) rfl rfl (le_b rfl) (congrArg (fun (x : Rot) => (Rot.cells x)) hx6)) rfl ?_
  refine GoT.nil ?_
  refine Wp.ret ?_
  cases h
  exact LeafQ.ret [] (by decide) (.cons (.agg rfl rfl ag96 ts96) .nil) rfl
theorem vec2_Rotate_ok {r_0 : Rot} {v_1 : Vec} {r : Vec} (h : vec2_Rotate r_0 v_1 = some r) : FnR Try.prog 71 [(Rot.av r_0), (Vec.av v_1)] (Vec.av r) := by
  refine FnR.intro' (fn := Try.f71) (N := 36) Try.func71 rfl rfl (Nat.le_of_ble_eq_true rfl) [2, 3, 4] ?_
  refine Wp.seq ?_
  refine Wp.region ?_
  refine GoT.a rfl (AEx.bx (Z := (Rot.cells r_0)) rfl (.tmp rfl) rfl rfl rfl rfl) rfl (lt_b rfl) ?_
  refine GoT.a rfl (AEx.bx (Z := (Vec.cells v_1)) rfl (.tmp rfl) rfl rfl rfl rfl) rfl (lt_b rfl) ?_
  refine GoT.a rfl (AEx.alZ rfl zt24 rfl rfl) rfl (lt_b rfl) ?_
  refine GoT.nil ?_
  refine let_e h fun r1 hr1 h => ?_
  refine let_e h fun r2 hr2 h => ?_
  refine let_e h fun r3 hr3 h => ?_
  refine let_e h fun x4 hx4 h => ?_
  refine Wp.seq ?_
  refine Wp.drawn2 (n0 := 11) [] mixed ?_
  refine GoD.q rfl (QEx.fldP 0 rfl Try.underlying96 rfl ts3 rfl (.tmp rfl) rfl) rfl (lt_b rfl) ?_
  refine GoD.qr rfl rfl (QEx.ldP1 (Rot.cells r_0) (iAV r_0.Cos) rfl ag3 (.tmp rfl) rfl) rfl (lt_b rfl) ?_
  refine GoD.q rfl (QEx.cal0 (r := (iAV r1)) [(iAV r_0.Cos)] rfl Try.call54 (.cons (.tmp rfl) .nil) (fixed_Saturate_ok hr1) rfl rfl) rfl (lt_b rfl) ?_
  refine GoD.q rfl (QEx.fldP 1 rfl Try.underlying96 rfl ts3 rfl (.tmp rfl) rfl) rfl (lt_b rfl) ?_
  refine GoD.qr rfl rfl (QEx.ldP1 (Rot.cells r_0) (iAV r_0.Sin) rfl ag3 (.tmp rfl) rfl) rfl (lt_b rfl) ?_
  refine GoD.q rfl (QEx.cal0 (r := (iAV r2)) [(iAV r_0.Sin)] rfl Try.call54 (.cons (.tmp rfl) .nil) (fixed_Saturate_ok hr2) rfl rfl) rfl (lt_b rfl) ?_
  refine GoD.qr rfl rfl (QEx.ldP (Vec.cells v_1) (Vec.av v_1) rfl ag24 ts24 (.tmp rfl) (le_b rfl) rfl) rfl (lt_b rfl) ?_
  refine GoD.q rfl (QEx.cal0 (r := (Vec.av r3)) [(Vec.av v_1)] rfl Try.call56 (.cons (.tmp rfl) .nil) (vec2_saturate_ok hr3) rfl rfl) rfl (lt_b rfl) ?_
  refine GoD.q rfl (QEx.assign rfl (.tmp rfl)) rfl (lt_b rfl) ?_
  refine GoD.q rfl (QEx.assign rfl (.tmp rfl)) rfl (lt_b rfl) ?_
  refine GoD.s rfl (Z := (Vec.cells x4)) rfl rfl ts24 (.tmp rfl) rfl (.tmp rfl) rfl rfl (le_b rfl) (congrArg (fun (x : Vec) => (Vec.cells x)) hx4) ?_
  refine GoD.nil ⟨by kernel_rfl, by kernel_rfl, by kernel_rfl, by kernel_rfl, by kernel_rfl, ?_⟩
  refine GoT.nil ?_
  refine bind_e h fun r5 hr5 h => ?_
  refine bind_e h fun r6 hr6 h => ?_
  refine let_e h fun x7 hx7 h => ?_
  refine Wp.seq ?_
  refine Wp.drawn2 (n0 := 22) [] mixed ?_
  refine GoD.q rfl (QEx.move rfl (.tmp rfl)) rfl (lt_b rfl) ?_
  refine GoD.q rfl (QEx.fldP 0 rfl Try.underlying24 rfl ts3 rfl (.tmp rfl) rfl) rfl (lt_b rfl) ?_
  refine GoD.qr rfl rfl (QEx.ldP1 (Vec.cells x4) (iAV x4.X) rfl ag3 (.tmp rfl) rfl) rfl (lt_b rfl) ?_
  refine GoD.q rfl (QEx.mulK rfl (.tmp rfl) (.tmp rfl)) rfl (lt_b rfl) ?_
  refine GoD.q rfl (QEx.move rfl (.tmp rfl)) rfl (lt_b rfl) ?_
  refine GoD.q rfl (QEx.fldP 1 rfl Try.underlying24 rfl ts3 rfl (.tmp rfl) rfl) rfl (lt_b rfl) ?_
  refine GoD.qr rfl rfl (QEx.ldP1 (Vec.cells x4) (iAV x4.Y) rfl ag3 (.tmp rfl) rfl) rfl (lt_b rfl) ?_
  refine GoD.q rfl (QEx.mulK rfl (.tmp rfl) (.tmp rfl)) rfl (lt_b rfl) ?_
  refine GoD.q rfl (QEx.subK rfl (.tmp rfl) (.tmp rfl)) rfl (lt_b rfl) ?_
  refine GoD.q rfl (QEx.cal0 (r := (iAV r5)) [(iAV (w64 ((w64 (r1 * x4.X)) - (w64 (r2 * x4.Y)))))] rfl Try.call57 (.cons (.tmp rfl) .nil) (vec2_product_ok hr5) rfl rfl) rfl (lt_b rfl) ?_
  refine GoD.q rfl (QEx.move rfl (.tmp rfl)) rfl (lt_b rfl) ?_
  refine GoD.q rfl (QEx.fldP 0 rfl Try.underlying24 rfl ts3 rfl (.tmp rfl) rfl) rfl (lt_b rfl) ?_
  refine GoD.qr rfl rfl (QEx.ldP1 (Vec.cells x4) (iAV x4.X) rfl ag3 (.tmp rfl) rfl) rfl (lt_b rfl) ?_
  refine GoD.q rfl (QEx.mulK rfl (.tmp rfl) (.tmp rfl)) rfl (lt_b rfl) ?_
  refine GoD.q rfl (QEx.move rfl (.tmp rfl)) rfl (lt_b rfl) ?_
  refine GoD.q rfl (QEx.fldP 1 rfl Try.underlying24 rfl ts3 rfl (.tmp rfl) rfl) rfl (lt_b rfl) ?_
  refine GoD.qr rfl rfl (QEx.ldP1 (Vec.cells x4) (iAV x4.Y) rfl ag3 (.tmp rfl) rfl) rfl (lt_b rfl) ?_
  refine GoD.q rfl (QEx.mulK rfl (.tmp rfl) (.tmp rfl)) rfl (lt_b rfl) ?_
  refine GoD.q rfl (QEx.addK rfl (.tmp rfl) (.tmp rfl)) rfl (lt_b rfl) ?_
  refine GoD.q rfl (QEx.cal0 (r := (iAV r6)) [(iAV (w64 ((w64 (r2 * x4.X)) + (w64 (r1 * x4.Y)))))] rfl Try.call57 (.cons (.tmp rfl) .nil) (vec2_product_ok hr6) rfl rfl) rfl (lt_b rfl) ?_
  refine GoD.q rfl (QEx.as (Vec.av (⟨r5, r6⟩ : Vec)) (QEx.buildZ rfl Try.underlying24 zt24 (by kernel_rfl) (.cons rfl (.tmp rfl) rfl rfl (le_b rfl) (.cons rfl (.tmp rfl) rfl rfl (le_b rfl) .nil)))) rfl (lt_b rfl) ?_
  refine GoD.s rfl (Z := (Vec.cells x7)) rfl rfl ts24 (.tmp rfl) rfl (.tmp rfl) rfl rfl (le_b rfl) (congrArg (fun (x : Vec) => (Vec.cells x)) hx7) ?_
  refine GoD.nil ⟨by kernel_rfl, by kernel_rfl, by kernel_rfl, by kernel_rfl, by kernel_rfl, ?_⟩
  refine GoT.nil ?_
  refine Wp.ret ?_
  cases h
  exact LeafQ.ret [] (by decide) (.cons (.agg rfl rfl ag24 ts24) .nil) rfl
theorem vec2_Add_ok {a : Vec} {b : Vec} {r : Vec} (h : vec2_Add a b = r) : FnR Try.prog 29 [(Vec.av a), (Vec.av b)] (Vec.av r) := by
  refine FnR.intro' (fn := Try.f29) (N := 16) Try.func29 rfl rfl (Nat.le_of_ble_eq_true rfl) [2, 3, 4] ?_
  refine Wp.seq ?_
  refine Wp.region ?_
  refine GoT.a rfl (AEx.bx (Z := (Vec.cells a)) rfl (.tmp rfl) rfl rfl rfl rfl) rfl (lt_b rfl) ?_
  refine GoT.a rfl (AEx.bx (Z := (Vec.cells b)) rfl (.tmp rfl) rfl rfl rfl rfl) rfl (lt_b rfl) ?_
  refine GoT.a rfl (AEx.alZ rfl zt24 rfl rfl) rfl (lt_b rfl) ?_
  refine GoT.nil ?_
  refine let_e h fun r1 hr1 h => ?_
  refine let_e h fun r2 hr2 h => ?_
  refine let_e h fun x3 hx3 h => ?_
  refine Wp.seq ?_
  refine Wp.drawn2 (n0 := 12) [] mixed ?_
  refine GoD.q rfl (QEx.fldP 0 rfl Try.underlying24 rfl ts3 rfl (.tmp rfl) rfl) rfl (lt_b rfl) ?_
  refine GoD.qr rfl rfl (QEx.ldP1 (Vec.cells a) (iAV a.X) rfl ag3 (.tmp rfl) rfl) rfl (lt_b rfl) ?_
  refine GoD.q rfl (QEx.fldP 0 rfl Try.underlying24 rfl ts3 rfl (.tmp rfl) rfl) rfl (lt_b rfl) ?_
  refine GoD.qr rfl rfl (QEx.ldP1 (Vec.cells b) (iAV b.X) rfl ag3 (.tmp rfl) rfl) rfl (lt_b rfl) ?_
  refine GoD.q rfl (QEx.cal0 (r := (iAV r1)) [(iAV a.X), (iAV b.X)] rfl Try.call31 (.cons (.tmp rfl) (.cons (.tmp rfl) .nil)) (fixed_Add_ok hr1) rfl rfl) rfl (lt_b rfl) ?_
  refine GoD.q rfl (QEx.fldP 1 rfl Try.underlying24 rfl ts3 rfl (.tmp rfl) rfl) rfl (lt_b rfl) ?_
  refine GoD.qr rfl rfl (QEx.ldP1 (Vec.cells a) (iAV a.Y) rfl ag3 (.tmp rfl) rfl) rfl (lt_b rfl) ?_
  refine GoD.q rfl (QEx.fldP 1 rfl Try.underlying24 rfl ts3 rfl (.tmp rfl) rfl) rfl (lt_b rfl) ?_
  refine GoD.qr rfl rfl (QEx.ldP1 (Vec.cells b) (iAV b.Y) rfl ag3 (.tmp rfl) rfl) rfl (lt_b rfl) ?_
  refine GoD.q rfl (QEx.cal0 (r := (iAV r2)) [(iAV a.Y), (iAV b.Y)] rfl Try.call31 (.cons (.tmp rfl) (.cons (.tmp rfl) .nil)) (fixed_Add_ok hr2) rfl rfl) rfl (lt_b rfl) ?_
  refine GoD.q rfl (QEx.as (Vec.av (⟨r1, r2⟩ : Vec)) (QEx.buildZ rfl Try.underlying24 zt24 (by kernel_rfl) (.cons rfl (.tmp rfl) rfl rfl (le_b rfl) (.cons rfl (.tmp rfl) rfl rfl (le_b rfl) .nil)))) rfl (lt_b rfl) ?_
  refine GoD.s rfl (Z := (Vec.cells x3)) rfl rfl ts24 (.tmp rfl) rfl (.tmp rfl) rfl rfl (le_b rfl) (congrArg (fun (x : Vec) => (Vec.cells x)) hx3) ?_
  refine GoD.nil ⟨by kernel_rfl, by kernel_rfl, by kernel_rfl, by kernel_rfl, by kernel_rfl, ?_⟩
  refine GoT.nil ?_
  refine Wp.ret ?_
  cases h
  exact LeafQ.ret [] (by decide) (.cons (.agg rfl rfl ag24 ts24) .nil) rfl
theorem transform_Apply_ok {t : Transform} {v_1 : Vec} {r : Vec} (h : transform_Apply t v_1 = some r) : FnR Try.prog 48 [(Transform.av t), (Vec.av v_1)] (Vec.av r) := by
  refine FnR.intro' (fn := Try.f48) (N := 13) Try.func48 rfl rfl (Nat.le_of_ble_eq_true rfl) [2, 3, 4] ?_
  refine Wp.seq ?_
  refine Wp.region ?_
  refine GoT.a rfl (AEx.bx (Z := (Transform.cells t)) rfl (.tmp rfl) rfl rfl rfl rfl) rfl (lt_b rfl) ?_
  refine GoT.a rfl (AEx.bx (Z := (Vec.cells v_1)) rfl (.tmp rfl) rfl rfl rfl rfl) rfl (lt_b rfl) ?_
  refine GoT.a rfl (AEx.alZ rfl zt24 rfl rfl) rfl (lt_b rfl) ?_
  refine GoT.nil ?_
  refine bind_e h fun r1 hr1 h => ?_
  refine bind_e h fun r2 hr2 h => ?_
  refine let_e h fun r3 hr3 h => ?_
  refine let_e h fun x4 hx4 h => ?_
  refine Wp.seq ?_
  refine Wp.drawn2 (n0 := 9) [] mixed ?_
  refine GoD.q rfl (QEx.fldP 2 rfl Try.underlying26 rfl ts3 rfl (.tmp rfl) rfl) rfl (lt_b rfl) ?_
  refine GoD.qr rfl rfl (QEx.ldP1 (Transform.cells t) (iAV t.Angle) rfl ag3 (.tmp rfl) rfl) rfl (lt_b rfl) ?_
  refine GoD.q rfl (QEx.cal0 (r := (Rot.av r1)) [(iAV t.Angle)] rfl Try.call72 (.cons (.tmp rfl) .nil) (angle_Rot_ok hr1) rfl rfl) rfl (lt_b rfl) ?_
  refine GoD.qr rfl rfl (QEx.ldP (Vec.cells v_1) (Vec.av v_1) rfl ag24 ts24 (.tmp rfl) (le_b rfl) rfl) rfl (lt_b rfl) ?_
  refine GoD.q rfl (QEx.cal0 (r := (Vec.av r2)) [(Rot.av r1), (Vec.av v_1)] rfl Try.call71 (.cons (.tmp rfl) (.cons (.tmp rfl) .nil)) (vec2_Rotate_ok hr2) rfl rfl) rfl (lt_b rfl) ?_
  refine GoD.q rfl (QEx.fldP 0 rfl Try.underlying26 rfl ts24 rfl (.tmp rfl) rfl) rfl (lt_b rfl) ?_
  refine GoD.qr rfl rfl (QEx.ldP (Transform.cells t) (Vec.av t.Position) rfl ag24 ts24 (.tmp rfl) (le_b rfl) rfl) rfl (lt_b rfl) ?_
  refine GoD.q rfl (QEx.cal0 (r := (Vec.av r3)) [(Vec.av r2), (Vec.av t.Position)] rfl Try.call29 (.cons (.tmp rfl) (.cons (.tmp rfl) .nil)) (vec2_Add_ok hr3) rfl rfl) rfl (lt_b rfl) ?_
  refine GoD.s rfl (Z := (Vec.cells x4)) rfl rfl ts24 (.tmp rfl) rfl (.tmp rfl) rfl rfl (le_b rfl) (congrArg (fun (x : Vec) => (Vec.cells x)) hx4) ?_
  refine GoD.nil ⟨by kernel_rfl, by kernel_rfl, by kernel_rfl, by kernel_rfl, by kernel_rfl, ?_⟩
  refine GoT.nil ?_
  refine Wp.ret ?_
  cases h
  exact LeafQ.ret [] (by decide) (.cons (.agg rfl rfl ag24 ts24) .nil) rfl
theorem body_WorldCenter_ok {b : Body} {r : Vec} (h : body_WorldCenter b = some r) : FnR Try.prog 23 [(Body.av b)] (Vec.av r) := by
  refine FnR.intro' (fn := Try.f23) (N := 9) Try.func23 rfl rfl (Nat.le_of_ble_eq_true rfl) [1, 2] ?_
  refine Wp.seq ?_
  refine Wp.region ?_
  refine GoT.a rfl (AEx.bx (Z := (Body.cells b)) rfl (.tmp rfl) rfl rfl rfl rfl) rfl (lt_b rfl) ?_
  refine GoT.a rfl (AEx.alZ rfl zt24 rfl rfl) rfl (lt_b rfl) ?_
  refine GoT.nil ?_
  refine bind_e h fun r1 hr1 h => ?_
  refine bind_e h fun r2 hr2 h => ?_
  refine let_e h fun x3 hx3 h => ?_
  refine Wp.seq ?_
  refine Wp.drawn2 (n0 := 7) [] mixed ?_
  refine GoD.q rfl (QEx.fldP 2 rfl Try.underlying29 rfl ts26 rfl (.tmp rfl) rfl) rfl (lt_b rfl) ?_
  refine GoD.qr rfl rfl (QEx.ldP (Body.cells b) (Transform.av b.Transform) rfl ag26 ts26 (.tmp rfl) (le_b rfl) rfl) rfl (lt_b rfl) ?_
  refine GoD.qr rfl rfl (QEx.ldP (Body.cells b) (Body.av b) rfl ag29 ts29 (.tmp rfl) (le_b rfl) rfl) rfl (lt_b rfl) ?_
  refine GoD.q rfl (QEx.cal0 (r := (MassData.av r1)) [(Body.av b)] rfl Try.call49 (.cons (.tmp rfl) .nil) (body_MassData_ok hr1) rfl rfl) rfl (lt_b rfl) ?_
  refine GoD.q rfl (QEx.as (Vec.av r1.Center) (QEx.field rfl Try.underlying78 rfl ts24 ag24 (.tmp rfl) (.inl ⟨rfl, rfl⟩))) rfl (lt_b rfl) ?_
  refine GoD.q rfl (QEx.cal0 (r := (Vec.av r2)) [(Transform.av b.Transform), (Vec.av r1.Center)] rfl Try.call48 (.cons (.tmp rfl) (.cons (.tmp rfl) .nil)) (transform_Apply_ok hr2) rfl rfl) rfl (lt_b rfl) ?_
  refine GoD.s rfl (Z := (Vec.cells x3)) rfl rfl ts24 (.tmp rfl) rfl (.tmp rfl) rfl rfl (le_b rfl) (congrArg (fun (x : Vec) => (Vec.cells x)) hx3) ?_
  refine GoD.nil ⟨by kernel_rfl, by kernel_rfl, by kernel_rfl, by kernel_rfl, by kernel_rfl, ?_⟩
  refine GoT.nil ?_
  refine Wp.ret ?_
  cases h
  exact LeafQ.ret [] (by decide) (.cons (.agg rfl rfl ag24 ts24) .nil) rfl
theorem massdata_Inverse_ok {m : MassData} {kind : Int} {fixedRotation : Bool} {r : Int × Int} (h : massdata_Inverse m kind fixedRotation = some r) : FnR Try.prog 53 [(MassData.av m), (iAV kind), (boolAV fixedRotation)] (.tup [(iAV r.1), (iAV r.2)]) := by
  refine FnR.intro' (fn := Try.f53) (N := 30) Try.func53 rfl rfl (Nat.le_of_ble_eq_true rfl) [3] ?_
  refine Wp.seq ?_
  refine Wp.region ?_
  refine GoT.a rfl (AEx.bx (Z := (MassData.cells m)) rfl (.tmp rfl) rfl rfl rfl rfl) rfl (lt_b rfl) ?_
  refine GoT.q rfl (QEx.as (iAV 0) (QEx.assign rfl .con)) rfl (lt_b rfl) ?_
  refine GoT.q rfl (QEx.as (iAV 0) (QEx.assign rfl .con)) rfl (lt_b rfl) ?_
  refine GoT.nil ?_
  refine Wp.seq ?_
  refine Wp.seq ?_
  refine Wp.region ?_
  refine GoT.q rfl (QEx.move rfl (.tmp rfl)) rfl (lt_b rfl) ?_
  refine GoT.q rfl (QEx.neqK rfl (.tmp rfl) .con) rfl (lt_b rfl) ?_
  refine GoT.nil ?_
  refine Wp.condS h rfl (fun h => ?_) (fun h => ?_)
  · refine Wp.seq ?_
    refine Wp.region ?_
    refine GoT.q rfl (QEx.as (iAV 0) (QEx.assign rfl .con)) rfl (lt_b rfl) ?_
    refine GoT.q rfl (QEx.as (iAV 0) (QEx.assign rfl .con)) rfl (lt_b rfl) ?_
    refine GoT.nil ?_
    refine Wp.ret ?_
    cases h
    exact LeafQ.ret [] (by decide) (.cons (.tmp rfl) (.cons (.tmp rfl) .nil)) rfl
  · refine Wp.skip ?_
    refine Wp.seq ?_
    refine Wp.region ?_
    refine GoT.q rfl (QEx.as (iAV 65536) (QEx.assign rfl .con)) rfl (lt_b rfl) ?_
    refine GoT.q rfl (QEx.as (iAV 0) (QEx.assign rfl .con)) rfl (lt_b rfl) ?_
    refine GoT.nil ?_
    refine Wp.join1 (fun v1 => ⟨[(2, (boolAV fixedRotation)), (3, (.ptr 3 0)), (8, (iAV v1)), (9, (iAV 0))], [(3, .cells (MassData.cells m))], []⟩) (fun v1 => (massdata_Inverse_j1 m fixedRotation) v1 = some r) ?_ ?_
    · intro v1 h
      refine Wp.seq ?_
      refine Wp.seq ?_
      refine Wp.region ?_
      refine GoT.q rfl (QEx.fldP 3 rfl Try.underlying78 rfl ts3 rfl (.tmp rfl) rfl) rfl (lt_b rfl) ?_
      refine GoT.qr rfl rfl (QEx.ldP1 (MassData.cells m) (iAV m.Inertia) rfl ag3 (.tmp rfl) rfl) rfl (lt_b rfl) ?_
      refine GoT.q rfl (QEx.gtrK rfl (.tmp rfl) .con) rfl (lt_b rfl) ?_
      refine GoT.q rfl (QEx.move rfl (.tmp rfl)) rfl (lt_b rfl) ?_
      refine GoT.g rfl rfl rfl (fun hg => QEx.move rfl (.tmp rfl)) rfl (lt_b rfl) ?_
      refine GoT.g rfl rfl rfl (fun hg => QEx.notK rfl (.opt (.tmp rfl) hg)) rfl (lt_b rfl) ?_
      refine GoT.q rfl (QEx.pickK rfl (.tmp rfl) (fun hp => (.opt (.tmp rfl) (beq_t hp))) (fun hp => .con)) rfl (lt_b rfl) ?_
      refine GoT.nil ?_
      refine Wp.condS h rfl (fun h => ?_) (fun h => ?_)
      · refine bind_e h fun r3 hr3 h => ?_
        refine Wp.region ?_
        refine GoT.q rfl (QEx.fldP 3 rfl Try.underlying78 rfl ts3 rfl (.tmp rfl) rfl) rfl (lt_b rfl) ?_
        refine GoT.qr rfl rfl (QEx.ldP1 (MassData.cells m) (iAV m.Inertia) rfl ag3 (.tmp rfl) rfl) rfl (lt_b rfl) ?_
        refine GoT.q rfl (QEx.cal0 (r := (iAV r3)) [(iAV 65536), (iAV m.Inertia)] rfl Try.call76 (.cons .con (.cons (.tmp rfl) .nil)) (fixed_Div_ok hr3) rfl rfl) rfl (lt_b rfl) ?_
        refine GoT.q rfl (QEx.assign rfl (.tmp rfl)) rfl (lt_b rfl) ?_
        refine GoT.nil ?_
        refine Wp.seq ?_
        refine Wp.region ?_
        refine GoT.q rfl (QEx.move rfl (.tmp rfl)) rfl (lt_b rfl) ?_
        refine GoT.q rfl (QEx.move rfl (.tmp rfl)) rfl (lt_b rfl) ?_
        refine GoT.q rfl (QEx.assign rfl (.tmp rfl)) rfl (lt_b rfl) ?_
        refine GoT.q rfl (QEx.assign rfl (.tmp rfl)) rfl (lt_b rfl) ?_
        refine GoT.nil ?_
        refine Wp.ret ?_
        cases h
        exact LeafQ.ret [] (by decide) (.cons (.tmp rfl) (.cons (.tmp rfl) .nil)) rfl
      · refine Wp.skip ?_
        refine Wp.seq ?_
        refine Wp.region ?_
        refine GoT.q rfl (QEx.move rfl (.tmp rfl)) rfl (lt_b rfl) ?_
        refine GoT.q rfl (QEx.move rfl (.tmp rfl)) rfl (lt_b rfl) ?_
        refine GoT.q rfl (QEx.assign rfl (.tmp rfl)) rfl (lt_b rfl) ?_
        refine GoT.q rfl (QEx.assign rfl (.tmp rfl)) rfl (lt_b rfl) ?_
        refine GoT.nil ?_
        refine Wp.ret ?_
        cases h
        exact LeafQ.ret [] (by decide) (.cons (.tmp rfl) (.cons (.tmp rfl) .nil)) rfl
    · refine Wp.seq ?_
      refine Wp.region ?_
      refine GoT.q rfl (QEx.fldP 0 rfl Try.underlying78 rfl ts3 rfl (.tmp rfl) rfl) rfl (lt_b rfl) ?_
      refine GoT.qr rfl rfl (QEx.ldP1 (MassData.cells m) (iAV m.Mass) rfl ag3 (.tmp rfl) rfl) rfl (lt_b rfl) ?_
      refine GoT.q rfl (QEx.gtrK rfl (.tmp rfl) .con) rfl (lt_b rfl) ?_
      refine GoT.nil ?_
      refine Wp.condS h rfl (fun h => ?_) (fun h => ?_)
      · refine bind_e h fun r2 hr2 h => ?_
        refine Wp.region ?_
        refine GoT.q rfl (QEx.fldP 0 rfl Try.underlying78 rfl ts3 rfl (.tmp rfl) rfl) rfl (lt_b rfl) ?_
        refine GoT.qr rfl rfl (QEx.ldP1 (MassData.cells m) (iAV m.Mass) rfl ag3 (.tmp rfl) rfl) rfl (lt_b rfl) ?_
        refine GoT.q rfl (QEx.cal0 (r := (iAV r2)) [(iAV 65536), (iAV m.Mass)] rfl Try.call76 (.cons .con (.cons (.tmp rfl) .nil)) (fixed_Div_ok hr2) rfl rfl) rfl (lt_b rfl) ?_
        refine GoT.q rfl (QEx.assign rfl (.tmp rfl)) rfl (lt_b rfl) ?_
        refine GoT.nil ?_
        exact Joined1.mk r2 [] [] h (LS.to.mk (.b rfl rfl (.r rfl rfl (.b rfl rfl (.b rfl rfl .n)))) (.b rfl rfl rfl .n) rfl)
      · refine Wp.skip ?_
        exact Joined1.mk 65536 [] [] h (LS.to.mk (.b rfl rfl (.r rfl rfl (.b rfl rfl (.b rfl rfl .n)))) (.b rfl rfl rfl .n) rfl)
theorem body_SolverBody_ok {b : Body} {r : SolverBody} (h : body_SolverBody b = some r) : FnR Try.prog 27 [(Body.av b)] (SolverBody.av r) := by
  refine FnR.intro' (fn := Try.f27) (N := 22) Try.func27 rfl rfl (Nat.le_of_ble_eq_true rfl) [1, 2] ?_
  refine Wp.seq ?_
  refine Wp.region ?_
  refine GoT.a rfl (AEx.bx (Z := (Body.cells b)) rfl (.tmp rfl) rfl rfl rfl rfl) rfl (lt_b rfl) ?_
  refine GoT.a rfl (AEx.alZ rfl zt60 rfl rfl) rfl (lt_b rfl) ?_
  refine GoT.nil ?_
  refine bind_e h fun r1 hr1 h => ?_
  refine bind_e h fun r2 hr2 h => ?_
  refine Wp.seq ?_
  refine Wp.drawn2 (n0 := 12) [] mixed ?_
  refine GoD.qr rfl rfl (QEx.ldP (Body.cells b) (Body.av b) rfl ag29 ts29 (.tmp rfl) (le_b rfl) rfl) rfl (lt_b rfl) ?_
  refine GoD.q rfl (QEx.cal0 (r := (MassData.av r1)) [(Body.av b)] rfl Try.call49 (.cons (.tmp rfl) .nil) (body_MassData_ok hr1) rfl rfl) rfl (lt_b rfl) ?_
  refine GoD.q rfl (QEx.fldP 1 rfl Try.underlying29 rfl ts22 rfl (.tmp rfl) rfl) rfl (lt_b rfl) ?_
  refine GoD.qr rfl rfl (QEx.ldP1 (Body.cells b) (iAV b.Kind) rfl ag22 (.tmp rfl) rfl) rfl (lt_b rfl) ?_
  refine GoD.q rfl (QEx.fldP 15 rfl Try.underlying29 rfl ts4 rfl (.tmp rfl) rfl) rfl (lt_b rfl) ?_
  refine GoD.qr rfl rfl (QEx.ldP1 (Body.cells b) (boolAV b.FixedRotation) rfl ag4 (.tmp rfl) rfl) rfl (lt_b rfl) ?_
  refine GoD.q rfl (QEx.cal0 (r := (.tup [(iAV r2.1), (iAV r2.2)])) [(MassData.av r1), (iAV b.Kind), (boolAV b.FixedRotation)] rfl Try.call53 (.cons (.tmp rfl) (.cons (.tmp rfl) (.cons (.tmp rfl) .nil))) (massdata_Inverse_ok hr2) rfl rfl) rfl (lt_b rfl) ?_
  refine GoD.q rfl (QEx.move rfl (.tmp rfl)) rfl (lt_b rfl) ?_
  refine GoD.q rfl (QEx.extract rfl (.tmp rfl) rfl) rfl (lt_b rfl) ?_
  refine GoD.q rfl (QEx.extract rfl (.tmp rfl) rfl) rfl (lt_b rfl) ?_
  refine GoD.q rfl (QEx.assign rfl (.tmp rfl)) rfl (lt_b rfl) ?_
  refine GoD.q rfl (QEx.assign rfl (.tmp rfl)) rfl (lt_b rfl) ?_
  refine GoD.nil ⟨by kernel_rfl, by kernel_rfl, by kernel_rfl, by kernel_rfl, by kernel_rfl, ?_⟩
  refine GoT.nil ?_
  refine let_e h fun x3 hx3 h => ?_
  refine Wp.seq ?_
  refine Wp.region ?_
  refine GoT.q rfl (QEx.fldP 5 rfl Try.underlying29 rfl ts24 rfl (.tmp rfl) rfl) rfl (lt_b rfl) ?_
  refine GoT.qr rfl rfl (QEx.ldP (Body.cells b) (Vec.av b.Velocity) rfl ag24 ts24 (.tmp rfl) (le_b rfl) rfl) rfl (lt_b rfl) ?_
  refine GoT.q rfl (QEx.fldP 7 rfl Try.underlying29 rfl ts3 rfl (.tmp rfl) rfl) rfl (lt_b rfl) ?_
  refine GoT.qr rfl rfl (QEx.ldP1 (Body.cells b) (iAV b.AngularVelocity) rfl ag3 (.tmp rfl) rfl) rfl (lt_b rfl) ?_
  refine GoT.q rfl (QEx.move rfl (.tmp rfl)) rfl (lt_b rfl) ?_
  refine GoT.q rfl (QEx.move rfl (.tmp rfl)) rfl (lt_b rfl) ?_
  refine GoT.q rfl (QEx.as (SolverBody.av (⟨b.Velocity, b.AngularVelocity, r2.1, r2.2⟩ : SolverBody)) (QEx.buildZ rfl Try.underlying60 zt60 (by kernel_rfl) (.cons rfl (.tmp rfl) rfl rfl (le_b rfl) (.cons rfl (.tmp rfl) rfl rfl (le_b rfl) (.cons rfl (.tmp rfl) rfl rfl (le_b rfl) (.cons rfl (.tmp rfl) rfl rfl (le_b rfl) .nil)))))) rfl (lt_b rfl) ?_
  refine GoT.s rfl (AEx.sto (Z := (SolverBody.cells x3)) rfl rfl ts60 (.tmp rfl) rfl (.tmp rfl) rfl rfl (le_b rfl) (congrArg (fun (x : SolverBody) => (SolverBody.cells x)) hx3)) rfl ?_
  refine GoT.nil ?_
  refine Wp.ret ?_
  cases h
  exact LeafQ.ret [] (by decide) (.cons (.agg rfl rfl ag60 ts60) .nil) rfl
end GoForm
