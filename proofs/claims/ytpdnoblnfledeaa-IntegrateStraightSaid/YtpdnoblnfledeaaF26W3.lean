/- The program's functions compute their plain forms: printed by gen2.py. No conditions. -/
import Derived.Test.YtpdnoblnfledeaaF26W2
set_option linter.all false
set_option maxRecDepth 100000
open Go Go.Cx Go.Proofs Go.RowKit
namespace GoForm
theorem law26_IntegrateFreeMotion_ok {b : Body} {dt : Int} {r : Bool} (h : law26_IntegrateFreeMotion b dt = some r) : FnR Try.prog 7 [(Body.av b), (iAV dt)] (boolAV r) := by
  refine FnR.intro' (fn := Try.f7) (N := 56) Try.func7 rfl rfl (Nat.le_of_ble_eq_true rfl) [2, 5, 6] ?_
  refine Wp.seq ?_
  refine Wp.region ?_
  refine GoT.a rfl (AEx.bx (Z := (Body.cells b)) rfl (.tmp rfl) rfl rfl rfl rfl) rfl (lt_b rfl) ?_
  refine GoT.q rfl (QEx.as (boolAV false) (QEx.assign rfl .con)) rfl (lt_b rfl) ?_
  refine GoT.nil ?_
  refine Wp.seq ?_
  refine bind_e h fun r1 hr1 h => ?_
  refine bind_e h fun r2 hr2 h => ?_
  refine Wp.seq ?_
  refine Wp.region ?_
  refine GoT.qr rfl rfl (QEx.ldP (Body.cells b) (Body.av b) rfl ag29 ts29 (.tmp rfl) (le_b rfl) rfl) rfl (lt_b rfl) ?_
  refine GoT.q rfl (QEx.cal0 (r := (boolAV r1)) [(Body.av b)] rfl Try.call8 (.cons (.tmp rfl) .nil) (ref23_Small_ok hr1) rfl rfl) rfl (lt_b rfl) ?_
  refine GoT.q rfl (QEx.notK rfl (.tmp rfl)) rfl (lt_b rfl) ?_
  refine GoT.q rfl (QEx.move rfl (.tmp rfl)) rfl (lt_b rfl) ?_
  refine GoT.gr rfl rfl rfl rfl (fun hg => QEx.ldP (Body.cells b) (Body.av b) rfl ag29 ts29 (.tmp rfl) (le_b rfl) rfl) rfl (lt_b rfl) ?_
  refine GoT.g rfl rfl rfl (fun hg => QEx.cal0 (r := (iAV r2)) [(Body.av b)] rfl Try.call14 (.cons (.opt (.tmp rfl) hg) .nil) (body_Validate_ok (gcall hr2 hg)) rfl rfl) rfl (lt_b rfl) ?_
  refine GoT.g rfl rfl rfl (fun hg => QEx.neqK rfl (.opt (.tmp rfl) hg) .con) rfl (lt_b rfl) ?_
  refine GoT.q rfl (QEx.pickK rfl (.tmp rfl) (fun hp => .con) (fun hp => (.opt (.tmp rfl) (beq_f hp)))) rfl (lt_b rfl) ?_
  refine GoT.nil ?_
  refine Wp.condS h rfl (fun h => ?_) (fun h => ?_)
  · refine bind_e h fun r3 hr3 h => ?_
    refine Wp.seq ?_
    refine Wp.region ?_
    refine GoT.q rfl (QEx.cal0 (r := (boolAV r3)) [] rfl Try.call9 .nil (law26_example_ok hr3) rfl rfl) rfl (lt_b rfl) ?_
    refine GoT.q rfl (QEx.assign rfl (.tmp rfl)) rfl (lt_b rfl) ?_
    refine GoT.nil ?_
    refine Wp.ret ?_
    cases h
    exact LeafQ.ret [] (by decide) (.cons (.tmp rfl) .nil) rfl
  · refine Wp.skip ?_
    refine bind_e h fun r4 hr4 h => ?_
    refine let_e h fun r5 hr5 h => ?_
    refine let_e h fun x6 hx6 h => ?_
    refine Wp.seq ?_
    refine Wp.region ?_
    refine GoT.qr rfl rfl (QEx.ldP (Body.cells b) (Body.av b) rfl ag29 ts29 (.tmp rfl) (le_b rfl) rfl) rfl (lt_b rfl) ?_
    refine GoT.q rfl (QEx.cal0 (r := (Body.av r4)) [(Body.av b)] rfl Try.call16 (.cons (.tmp rfl) .nil) (body_Clone_ok hr4) rfl rfl) rfl (lt_b rfl) ?_
    refine GoT.q rfl (QEx.cal0 (r := (Body.av r5)) [(Body.av r4)] rfl Try.call13 (.cons (.tmp rfl) .nil) (integrate_ClearForces_ok hr5) rfl rfl) rfl (lt_b rfl) ?_
    refine GoT.a rfl (AEx.alZ rfl zt29 rfl rfl) rfl (lt_b rfl) ?_
    refine GoT.s rfl (AEx.sto (Z := (Body.cells x6)) rfl rfl ts29 (.tmp rfl) rfl (.tmp rfl) rfl rfl (le_b rfl) (congrArg (fun (x : Body) => (Body.cells x)) hx6)) rfl ?_
    refine GoT.nil ?_
    refine let_e h fun x7 hx7 h => ?_
    refine Wp.seq ?_
    refine Wp.region ?_
    refine GoT.q rfl (QEx.fldP 11 rfl Try.underlying29 rfl ts3 rfl (.tmp rfl) rfl) rfl (lt_b rfl) ?_
    refine GoT.s rfl (AEx.sto (Z := (Body.cells x7)) rfl rfl ts3 (.tmp rfl) rfl .con rfl rfl (le_b rfl) (congrArg (fun (x : Body) => (Body.cells x)) hx7)) rfl ?_
    refine GoT.nil ?_
    refine let_e h fun x8 hx8 h => ?_
    refine Wp.seq ?_
    refine Wp.region ?_
    refine GoT.q rfl (QEx.fldP 12 rfl Try.underlying29 rfl ts3 rfl (.tmp rfl) rfl) rfl (lt_b rfl) ?_
    refine GoT.s rfl (AEx.sto (Z := (Body.cells x8)) rfl rfl ts3 (.tmp rfl) rfl .con rfl rfl (le_b rfl) (congrArg (fun (x : Body) => (Body.cells x)) hx8)) rfl ?_
    refine GoT.nil ?_
    refine bind_e h fun r9 hr9 h => ?_
    refine let_e h fun x10 hx10 h => ?_
    refine Wp.seq ?_
    refine Wp.region ?_
    refine GoT.qr rfl rfl (QEx.ldP (Body.cells x8) (Body.av x8) rfl ag29 ts29 (.tmp rfl) (le_b rfl) rfl) rfl (lt_b rfl) ?_
    refine GoT.q rfl (QEx.move rfl (.tmp rfl)) rfl (lt_b rfl) ?_
    refine GoT.q rfl (QEx.as (Settings.av (⟨dt, Vec.zero, 0, 0⟩ : Settings)) (QEx.buildZ rfl Try.underlying31 zt31 (by kernel_rfl) (.cons rfl (.tmp rfl) rfl rfl (le_b rfl) .nil))) rfl (lt_b rfl) ?_
    refine GoT.q rfl (QEx.cal0 (r := (Body.av r9)) [(Body.av x8), (Settings.av (⟨dt, Vec.zero, 0, 0⟩ : Settings))] rfl Try.call11 (.cons (.tmp rfl) (.cons (.tmp rfl) .nil)) (integrate_Velocity_ok hr9) rfl rfl) rfl (lt_b rfl) ?_
    refine GoT.a rfl (AEx.alZ rfl zt29 rfl rfl) rfl (lt_b rfl) ?_
    refine GoT.s rfl (AEx.sto (Z := (Body.cells x10)) rfl rfl ts29 (.tmp rfl) rfl (.tmp rfl) rfl rfl (le_b rfl) (congrArg (fun (x : Body) => (Body.cells x)) hx10)) rfl ?_
    refine GoT.nil ?_
    refine Wp.seq ?_
    refine Wp.region ?_
    refine GoT.q rfl (QEx.fldP 7 rfl Try.underlying29 rfl ts3 rfl (.tmp rfl) rfl) rfl (lt_b rfl) ?_
    refine GoT.qr rfl rfl (QEx.ldP1 (Body.cells x8) (iAV x8.AngularVelocity) rfl ag3 (.tmp rfl) rfl) rfl (lt_b rfl) ?_
    refine GoT.q rfl (QEx.assign rfl (.tmp rfl)) rfl (lt_b rfl) ?_
    refine GoT.nil ?_
    refine Wp.join1 (fun v11 => ⟨[(5, (.ptr 5 0)), (6, (.ptr 6 0)), (7, (iAV v11))], [(5, .cells (Body.cells x8)), (6, .cells (Body.cells x10))], [2]⟩) (fun v11 => (law26_IntegrateFreeMotion_j1 x8 x10) v11 = some r) ?_ ?_
    · intro v11 h
      refine bind_e h fun r12 hr12 h => ?_
      refine let_e h fun x13 hx13 h => ?_
      refine Wp.seq ?_
      refine Wp.region ?_
      refine GoT.q rfl (QEx.fldP 5 rfl Try.underlying29 rfl ts24 rfl (.tmp rfl) rfl) rfl (lt_b rfl) ?_
      refine GoT.qr rfl rfl (QEx.ldP (Body.cells x10) (Vec.av x10.Velocity) rfl ag24 ts24 (.tmp rfl) (le_b rfl) rfl) rfl (lt_b rfl) ?_
      refine GoT.q rfl (QEx.fldP 5 rfl Try.underlying29 rfl ts24 rfl (.tmp rfl) rfl) rfl (lt_b rfl) ?_
      refine GoT.qr rfl rfl (QEx.ldP (Body.cells x8) (Vec.av x8.Velocity) rfl ag24 ts24 (.tmp rfl) (le_b rfl) rfl) rfl (lt_b rfl) ?_
      refine GoT.q rfl (QEx.eqlA rfl eq24 (.tmp rfl) (.tmp rfl)) rfl (lt_b rfl) ?_
      refine GoT.q rfl (QEx.move rfl (.tmp rfl)) rfl (lt_b rfl) ?_
      refine GoT.g rfl rfl rfl (fun hg => QEx.fldP 7 rfl Try.underlying29 rfl ts3 rfl (.tmp rfl) rfl) rfl (lt_b rfl) ?_
      refine GoT.gr rfl rfl rfl rfl (fun hg => QEx.ldP1 (Body.cells x10) (iAV x10.AngularVelocity) rfl ag3 (.opt (.tmp rfl) hg) rfl) rfl (lt_b rfl) ?_
      refine GoT.g rfl rfl rfl (fun hg => QEx.move rfl (.tmp rfl)) rfl (lt_b rfl) ?_
      refine GoT.g rfl rfl rfl (fun hg => QEx.eqlK rfl (.opt (.tmp rfl) hg) (.opt (.tmp rfl) hg)) rfl (lt_b rfl) ?_
      refine GoT.q rfl (QEx.pickK rfl (.tmp rfl) (fun hp => (.opt (.tmp rfl) (beq_t hp))) (fun hp => .con)) rfl (lt_b rfl) ?_
      refine GoT.q rfl (QEx.move rfl (.tmp rfl)) rfl (lt_b rfl) ?_
      refine GoT.g rfl rfl rfl (fun hg => QEx.fldP 2 rfl Try.underlying29 rfl ts26 rfl (.tmp rfl) rfl) rfl (lt_b rfl) ?_
      refine GoT.gr rfl rfl rfl rfl (fun hg => QEx.ldP (Body.cells x10) (Transform.av x10.Transform) rfl ag26 ts26 (.opt (.tmp rfl) hg) (le_b rfl) rfl) rfl (lt_b rfl) ?_
      refine GoT.g rfl rfl rfl (fun hg => QEx.fldP 2 rfl Try.underlying29 rfl ts26 rfl (.tmp rfl) rfl) rfl (lt_b rfl) ?_
      refine GoT.gr rfl rfl rfl rfl (fun hg => QEx.ldP (Body.cells x8) (Transform.av x8.Transform) rfl ag26 ts26 (.opt (.tmp rfl) hg) (le_b rfl) rfl) rfl (lt_b rfl) ?_
      refine GoT.g rfl rfl rfl (fun hg => QEx.eqlA rfl eq26 (.opt (.tmp rfl) hg) (.opt (.tmp rfl) hg)) rfl (lt_b rfl) ?_
      refine GoT.q rfl (QEx.pickK rfl (.tmp rfl) (fun hp => (.opt (.tmp rfl) (beq_t hp))) (fun hp => .con)) rfl (lt_b rfl) ?_
      refine GoT.q rfl (QEx.move rfl (.tmp rfl)) rfl (lt_b rfl) ?_
      refine GoT.g rfl rfl rfl (fun hg => QEx.cal0 (r := (boolAV r12)) [] rfl Try.call9 .nil (law26_example_ok (gcall hr12 hg)) rfl rfl) rfl (lt_b rfl) ?_
      refine GoT.q rfl (QEx.pickK rfl (.tmp rfl) (fun hp => (.opt (.tmp rfl) (beq_t hp))) (fun hp => .con)) rfl (lt_b rfl) ?_
      refine GoT.q rfl (QEx.eq (QEx.assign rfl (.tmp rfl)) (congrArg boolAV hx13)) rfl (lt_b rfl) ?_
      refine GoT.nil ?_
      refine Wp.ret ?_
      cases h
      exact LeafQ.ret [] (by decide) (.cons (.tmp rfl) .nil) rfl
    · refine Wp.seq ?_
      refine Wp.region ?_
      refine GoT.q rfl (QEx.fldP 15 rfl Try.underlying29 rfl ts4 rfl (.tmp rfl) rfl) rfl (lt_b rfl) ?_
      refine GoT.qr rfl rfl (QEx.ldP1 (Body.cells x8) (boolAV x8.FixedRotation) rfl ag4 (.tmp rfl) rfl) rfl (lt_b rfl) ?_
      refine GoT.q rfl (QEx.move rfl (.tmp rfl)) rfl (lt_b rfl) ?_
      refine GoT.g rfl rfl rfl (fun hg => QEx.fldP 1 rfl Try.underlying29 rfl ts22 rfl (.tmp rfl) rfl) rfl (lt_b rfl) ?_
      refine GoT.gr rfl rfl rfl rfl (fun hg => QEx.ldP1 (Body.cells x8) (iAV x8.Kind) rfl ag22 (.opt (.tmp rfl) hg) rfl) rfl (lt_b rfl) ?_
      refine GoT.g rfl rfl rfl (fun hg => QEx.eqlK rfl (.opt (.tmp rfl) hg) .con) rfl (lt_b rfl) ?_
      refine GoT.q rfl (QEx.pickK rfl (.tmp rfl) (fun hp => (.opt (.tmp rfl) (beq_t hp))) (fun hp => .con)) rfl (lt_b rfl) ?_
      refine GoT.nil ?_
      refine Wp.condS h rfl (fun h => ?_) (fun h => ?_)
      · refine Wp.region ?_
        refine GoT.q rfl (QEx.as (iAV 0) (QEx.assign rfl .con)) rfl (lt_b rfl) ?_
        refine GoT.nil ?_
        exact Joined1.mk 0 [2] [] h (LS.to.mk (.r rfl rfl (.r rfl rfl (.b rfl rfl .n))) (.b rfl rfl rfl (.b rfl rfl rfl .n)) rfl)
      · refine Wp.skip ?_
        exact Joined1.mk x8.AngularVelocity [2] [] h (LS.to.mk (.r rfl rfl (.r rfl rfl (.b rfl rfl .n))) (.b rfl rfl rfl (.b rfl rfl rfl .n)) rfl)
end GoForm
