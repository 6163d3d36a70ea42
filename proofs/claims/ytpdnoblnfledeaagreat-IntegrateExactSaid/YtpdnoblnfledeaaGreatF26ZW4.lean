/- The program's functions compute their plain forms: printed by gen2.py. No conditions. -/
import Derived.Test.YtpdnoblnfledeaaGreatF26ZW3
set_option linter.all false
set_option maxRecDepth 100000
open Go Go.Cx Go.Proofs Go.RowKit
namespace GoForm
theorem law26_IntegrateExact_ok {b : Body} {s : Settings} {dt : Int} {r : Bool} (h : law26_IntegrateExact b s dt = some r) : FnR Tryz.prog 3 [(Body.av b), (Settings.av s), (iAV dt)] (boolAV r) := by
  refine FnR.intro' (fn := Tryz.f3) (N := 37) Tryz.func3 rfl rfl (Nat.le_of_ble_eq_true rfl) [3, 4] ?_
  refine Wp.seq ?_
  refine Wp.region ?_
  refine GoT.a rfl (AEx.bx (Z := (Body.cells b)) rfl (.tmp rfl) rfl rfl rfl rfl) rfl (lt_b rfl) ?_
  refine GoT.a rfl (AEx.bx (Z := (Settings.cells s)) rfl (.tmp rfl) rfl rfl rfl rfl) rfl (lt_b rfl) ?_
  refine GoT.q rfl (QEx.as (boolAV false) (QEx.assign rfl .con)) rfl (lt_b rfl) ?_
  refine GoT.nil ?_
  refine Wp.seq ?_
  refine bind_e h fun r1 hr1 h => ?_
  refine Wp.seq ?_
  refine Wp.region ?_
  refine GoT.qr rfl rfl (QEx.ldP (Body.cells b) (Body.av b) rfl ag29 ts29 (.tmp rfl) (le_b rfl) rfl) rfl (lt_b rfl) ?_
  refine GoT.q rfl (QEx.cal0 (r := (boolAV r1)) [(Body.av b)] rfl Tryz.call4 (.cons (.tmp rfl) .nil) (ref23_Small_ok hr1) rfl rfl) rfl (lt_b rfl) ?_
  refine GoT.q rfl (QEx.notK rfl (.tmp rfl)) rfl (lt_b rfl) ?_
  refine GoT.nil ?_
  refine Wp.condS h rfl (fun h => ?_) (fun h => ?_)
  · refine bind_e h fun r2 hr2 h => ?_
    refine Wp.seq ?_
    refine Wp.region ?_
    refine GoT.q rfl (QEx.cal0 (r := (boolAV r2)) [] rfl Tryz.call5 .nil (law26_example_ok hr2) rfl rfl) rfl (lt_b rfl) ?_
    refine GoT.q rfl (QEx.assign rfl (.tmp rfl)) rfl (lt_b rfl) ?_
    refine GoT.nil ?_
    refine Wp.ret ?_
    cases h
    exact LeafQ.ret [] (by decide) (.cons (.tmp rfl) .nil) rfl
  · refine Wp.skip ?_
    refine bind_e h fun r3 hr3 h => ?_
    refine bind_e h fun r4 hr4 h => ?_
    refine bind_e h fun r5 hr5 h => ?_
    refine bind_e h fun r6 hr6 h => ?_
    refine bind_e h fun r7 hr7 h => ?_
    refine bind_e h fun r8 hr8 h => ?_
    refine let_e h fun r9 hr9 h => ?_
    refine let_e h fun r10 hr10 h => ?_
    refine bind_e h fun r11 hr11 h => ?_
    refine bind_e h fun r12 hr12 h => ?_
    refine let_e h fun x13 hx13 h => ?_
    refine Wp.seq ?_
    refine Wp.drawn2 (n0 := 27) [] mixed ?_
    refine GoD.qr rfl rfl (QEx.ldP (Body.cells b) (Body.av b) rfl ag29 ts29 (.tmp rfl) (le_b rfl) rfl) rfl (lt_b rfl) ?_
    refine GoD.qr rfl rfl (QEx.ldP (Settings.cells s) (Settings.av s) rfl ag31 ts31 (.tmp rfl) (le_b rfl) rfl) rfl (lt_b rfl) ?_
    refine GoD.q rfl (QEx.cal0 (r := (Body.av r3)) [(Body.av b), (Settings.av s)] rfl Tryz.call7 (.cons (.tmp rfl) (.cons (.tmp rfl) .nil)) (integrate_Velocity_ok hr3) rfl rfl) rfl (lt_b rfl) ?_
    refine GoD.qr rfl rfl (QEx.ldP (Body.cells b) (Body.av b) rfl ag29 ts29 (.tmp rfl) (le_b rfl) rfl) rfl (lt_b rfl) ?_
    refine GoD.qr rfl rfl (QEx.ldP (Settings.cells s) (Settings.av s) rfl ag31 ts31 (.tmp rfl) (le_b rfl) rfl) rfl (lt_b rfl) ?_
    refine GoD.q rfl (QEx.cal0 (r := (Body.av r4)) [(Body.av b), (Settings.av s)] rfl Tryz.call8 (.cons (.tmp rfl) (.cons (.tmp rfl) .nil)) (ref26_Velocity_ok hr4) rfl rfl) rfl (lt_b rfl) ?_
    refine GoD.q rfl (QEx.cal0 (r := (boolAV r5)) [(Body.av r3), (Body.av r4)] rfl Tryz.call6 (.cons (.tmp rfl) (.cons (.tmp rfl) .nil)) (ref23_Equal_ok hr5) rfl rfl) rfl (lt_b rfl) ?_
    refine GoD.q rfl (QEx.move rfl (.tmp rfl)) rfl (lt_b rfl) ?_
    refine GoD.gr rfl rfl rfl rfl (fun hg => QEx.ldP (Body.cells b) (Body.av b) rfl ag29 ts29 (.tmp rfl) (le_b rfl) rfl) rfl (lt_b rfl) ?_
    refine GoD.g rfl rfl rfl (fun hg => QEx.move rfl (.tmp rfl)) rfl (lt_b rfl) ?_
    refine GoD.g rfl rfl rfl (fun hg => QEx.cal0 (r := (Body.av r6)) [(Body.av b), (iAV dt)] rfl Tryz.call9 (.cons (.opt (.tmp rfl) hg) (.cons (.opt (.tmp rfl) hg) .nil)) (integrate_Position_ok (gcall hr6 hg)) rfl rfl) rfl (lt_b rfl) ?_
    refine GoD.gr rfl rfl rfl rfl (fun hg => QEx.ldP (Body.cells b) (Body.av b) rfl ag29 ts29 (.tmp rfl) (le_b rfl) rfl) rfl (lt_b rfl) ?_
    refine GoD.g rfl rfl rfl (fun hg => QEx.move rfl (.tmp rfl)) rfl (lt_b rfl) ?_
    refine GoD.g rfl rfl rfl (fun hg => QEx.cal0 (r := (Body.av r7)) [(Body.av b), (iAV dt)] rfl Tryz.call10 (.cons (.opt (.tmp rfl) hg) (.cons (.opt (.tmp rfl) hg) .nil)) (ref26_Position_ok (gcall hr7 hg)) rfl rfl) rfl (lt_b rfl) ?_
    refine GoD.g rfl rfl rfl (fun hg => QEx.cal0 (r := (boolAV r8)) [(Body.av r6), (Body.av r7)] rfl Tryz.call6 (.cons (.opt (.tmp rfl) hg) (.cons (.opt (.tmp rfl) hg) .nil)) (ref23_Equal_ok (gcall hr8 hg)) rfl rfl) rfl (lt_b rfl) ?_
    refine GoD.q rfl (QEx.pickK rfl (.tmp rfl) (fun hp => (.opt (.tmp rfl) (beq_t hp))) (fun hp => .con)) rfl (lt_b rfl) ?_
    refine GoD.q rfl (QEx.move rfl (.tmp rfl)) rfl (lt_b rfl) ?_
    refine GoD.gr rfl rfl rfl rfl (fun hg => QEx.ldP (Body.cells b) (Body.av b) rfl ag29 ts29 (.tmp rfl) (le_b rfl) rfl) rfl (lt_b rfl) ?_
    refine GoD.g rfl rfl rfl (fun hg => QEx.cal0 (r := (Body.av r9)) [(Body.av b)] rfl Tryz.call11 (.cons (.opt (.tmp rfl) hg) .nil) (integrate_ClearForces_ok hr9) rfl rfl) rfl (lt_b rfl) ?_
    refine GoD.gr rfl rfl rfl rfl (fun hg => QEx.ldP (Body.cells b) (Body.av b) rfl ag29 ts29 (.tmp rfl) (le_b rfl) rfl) rfl (lt_b rfl) ?_
    refine GoD.g rfl rfl rfl (fun hg => QEx.cal0 (r := (Body.av r10)) [(Body.av b)] rfl Tryz.call12 (.cons (.opt (.tmp rfl) hg) .nil) (ref26_ClearForces_ok hr10) rfl rfl) rfl (lt_b rfl) ?_
    refine GoD.g rfl rfl rfl (fun hg => QEx.cal0 (r := (boolAV r11)) [(Body.av r9), (Body.av r10)] rfl Tryz.call6 (.cons (.opt (.tmp rfl) hg) (.cons (.opt (.tmp rfl) hg) .nil)) (ref23_Equal_ok (gcall hr11 hg)) rfl rfl) rfl (lt_b rfl) ?_
    refine GoD.q rfl (QEx.pickK rfl (.tmp rfl) (fun hp => (.opt (.tmp rfl) (beq_t hp))) (fun hp => .con)) rfl (lt_b rfl) ?_
    refine GoD.q rfl (QEx.move rfl (.tmp rfl)) rfl (lt_b rfl) ?_
    refine GoD.g rfl rfl rfl (fun hg => QEx.cal0 (r := (boolAV r12)) [] rfl Tryz.call5 .nil (law26_example_ok (gcall hr12 hg)) rfl rfl) rfl (lt_b rfl) ?_
    refine GoD.q rfl (QEx.pickK rfl (.tmp rfl) (fun hp => (.opt (.tmp rfl) (beq_t hp))) (fun hp => .con)) rfl (lt_b rfl) ?_
    refine GoD.q rfl (QEx.eq (QEx.assign rfl (.tmp rfl)) (congrArg boolAV hx13)) rfl (lt_b rfl) ?_
    refine GoD.nil ⟨by kernel_rfl, by kernel_rfl, by kernel_rfl, by kernel_rfl, by kernel_rfl, ?_⟩
    refine GoT.nil ?_
    refine Wp.ret ?_
    cases h
    exact LeafQ.ret [] (by decide) (.cons (.tmp rfl) .nil) rfl
end GoForm
