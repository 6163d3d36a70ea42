/- The program's functions compute their plain forms: printed by gen2.py. No conditions. -/
import Derived.Test.YtpdnoblnfledeaaGreatF26ZW1
set_option linter.all false
set_option maxRecDepth 100000
open Go Go.Cx Go.Proofs Go.RowKit
namespace GoForm
theorem ref01_Saturate_ok {x_0 : Int} {r : Int} (h : ref01_Saturate x_0 = r) : FnR Tryz.prog 43 [(iAV x_0)] (iAV r) := by
  refine FnR.intro' (fn := Tryz.f43) (N := 8) Tryz.func43 rfl rfl (Nat.le_of_ble_eq_true rfl) [] ?_
  refine Wp.seq ?_
  refine Wp.region ?_
  refine GoT.q rfl (QEx.as (iAV 0) (QEx.assign rfl .con)) rfl (lt_b rfl) ?_
  refine GoT.nil ?_
  refine Wp.seq ?_
  refine Wp.seq ?_
  refine Wp.region ?_
  refine GoT.q rfl (QEx.move rfl (.tmp rfl)) rfl (lt_b rfl) ?_
  refine GoT.q rfl (QEx.gtrK rfl (.tmp rfl) .con) rfl (lt_b rfl) ?_
  refine GoT.nil ?_
  refine Wp.condS h rfl (fun h => ?_) (fun h => ?_)
  · refine Wp.seq ?_
    refine Wp.region ?_
    refine GoT.q rfl (QEx.as (iAV 536870911) (QEx.assign rfl .con)) rfl (lt_b rfl) ?_
    refine GoT.nil ?_
    refine Wp.ret ?_
    cases h
    exact LeafQ.ret [] (by decide) (.cons (.tmp rfl) .nil) rfl
  · refine Wp.skip ?_
    refine Wp.seq ?_
    refine Wp.seq ?_
    refine Wp.region ?_
    refine GoT.q rfl (QEx.move rfl (.tmp rfl)) rfl (lt_b rfl) ?_
    refine GoT.q rfl (QEx.lssK rfl (.tmp rfl) .con) rfl (lt_b rfl) ?_
    refine GoT.nil ?_
    refine Wp.condS h rfl (fun h => ?_) (fun h => ?_)
    · refine Wp.seq ?_
      refine Wp.region ?_
      refine GoT.q rfl (QEx.as (iAV (-536870911)) (QEx.assign rfl .con)) rfl (lt_b rfl) ?_
      refine GoT.nil ?_
      refine Wp.ret ?_
      cases h
      exact LeafQ.ret [] (by decide) (.cons (.tmp rfl) .nil) rfl
    · refine Wp.skip ?_
      refine Wp.seq ?_
      refine Wp.region ?_
      refine GoT.q rfl (QEx.move rfl (.tmp rfl)) rfl (lt_b rfl) ?_
      refine GoT.q rfl (QEx.assign rfl (.tmp rfl)) rfl (lt_b rfl) ?_
      refine GoT.nil ?_
      refine Wp.ret ?_
      cases h
      exact LeafQ.ret [] (by decide) (.cons (.tmp rfl) .nil) rfl
theorem ref01_Sub_ok {a : Int} {b : Int} {r : Int} (h : ref01_Sub a b = r) : FnR Tryz.prog 29 [(iAV a), (iAV b)] (iAV r) := by
  refine FnR.intro' (fn := Tryz.f29) (N := 11) Tryz.func29 rfl rfl (Nat.le_of_ble_eq_true rfl) [] ?_
  refine Wp.seq ?_
  refine Wp.region ?_
  refine GoT.q rfl (QEx.as (iAV 0) (QEx.assign rfl .con)) rfl (lt_b rfl) ?_
  refine GoT.nil ?_
  refine let_e h fun r1 hr1 h => ?_
  refine let_e h fun r2 hr2 h => ?_
  refine let_e h fun r3 hr3 h => ?_
  refine Wp.seq ?_
  refine Wp.region ?_
  refine GoT.q rfl (QEx.move rfl (.tmp rfl)) rfl (lt_b rfl) ?_
  refine GoT.q rfl (QEx.cal0 (r := (iAV r1)) [(iAV a)] rfl Tryz.call43 (.cons (.tmp rfl) .nil) (ref01_Saturate_ok hr1) rfl rfl) rfl (lt_b rfl) ?_
  refine GoT.q rfl (QEx.move rfl (.tmp rfl)) rfl (lt_b rfl) ?_
  refine GoT.q rfl (QEx.cal0 (r := (iAV r2)) [(iAV b)] rfl Tryz.call43 (.cons (.tmp rfl) .nil) (ref01_Saturate_ok hr2) rfl rfl) rfl (lt_b rfl) ?_
  refine GoT.q rfl (QEx.subK rfl (.tmp rfl) (.tmp rfl)) rfl (lt_b rfl) ?_
  refine GoT.q rfl (QEx.cal0 (r := (iAV r3)) [(iAV (w64 (r1 - r2)))] rfl Tryz.call43 (.cons (.tmp rfl) .nil) (ref01_Saturate_ok hr3) rfl rfl) rfl (lt_b rfl) ?_
  refine GoT.q rfl (QEx.assign rfl (.tmp rfl)) rfl (lt_b rfl) ?_
  refine GoT.nil ?_
  refine Wp.ret ?_
  cases h
  exact LeafQ.ret [] (by decide) (.cons (.tmp rfl) .nil) rfl
theorem ref03_Sub_ok {a : Vec} {b : Vec} {r : Vec} (h : ref03_Sub a b = r) : FnR Tryz.prog 26 [(Vec.av a), (Vec.av b)] (Vec.av r) := by
  refine FnR.intro' (fn := Tryz.f26) (N := 16) Tryz.func26 rfl rfl (Nat.le_of_ble_eq_true rfl) [2, 3, 4] ?_
  refine Wp.seq ?_
  refine Wp.region ?_
  refine GoT.a rfl (AEx.bx (Z := (Vec.cells a)) rfl (.tmp rfl) rfl rfl rfl rfl) rfl (lt_b rfl) ?_
  refine GoT.a rfl (AEx.bx (Z := (Vec.cells b)) rfl (.tmp rfl) rfl rfl rfl rfl) rfl (lt_b rfl) ?_
  refine GoT.a rfl (AEx.alZ rfl zt24 rfl rfl) rfl (lt_b rfl) ?_
  refine GoT.nil ?_
  refine let_e h fun r1 hr1 h => ?_
  refine let_e h fun r2 hr2 h => ?_
  refine let_e h fun x3 hx3 h => ?_
  refine Wp.seq ?_
  refine Wp.drawn2 (n0 := 12) [] mixed ?_
  refine GoD.q rfl (QEx.fldP 0 rfl Tryz.underlying24 rfl ts3 rfl (.tmp rfl) rfl) rfl (lt_b rfl) ?_
  refine GoD.qr rfl rfl (QEx.ldP1 (Vec.cells a) (iAV a.X) rfl ag3 (.tmp rfl) rfl) rfl (lt_b rfl) ?_
  refine GoD.q rfl (QEx.fldP 0 rfl Tryz.underlying24 rfl ts3 rfl (.tmp rfl) rfl) rfl (lt_b rfl) ?_
  refine GoD.qr rfl rfl (QEx.ldP1 (Vec.cells b) (iAV b.X) rfl ag3 (.tmp rfl) rfl) rfl (lt_b rfl) ?_
  refine GoD.q rfl (QEx.cal0 (r := (iAV r1)) [(iAV a.X), (iAV b.X)] rfl Tryz.call29 (.cons (.tmp rfl) (.cons (.tmp rfl) .nil)) (ref01_Sub_ok hr1) rfl rfl) rfl (lt_b rfl) ?_
  refine GoD.q rfl (QEx.fldP 1 rfl Tryz.underlying24 rfl ts3 rfl (.tmp rfl) rfl) rfl (lt_b rfl) ?_
  refine GoD.qr rfl rfl (QEx.ldP1 (Vec.cells a) (iAV a.Y) rfl ag3 (.tmp rfl) rfl) rfl (lt_b rfl) ?_
  refine GoD.q rfl (QEx.fldP 1 rfl Tryz.underlying24 rfl ts3 rfl (.tmp rfl) rfl) rfl (lt_b rfl) ?_
  refine GoD.qr rfl rfl (QEx.ldP1 (Vec.cells b) (iAV b.Y) rfl ag3 (.tmp rfl) rfl) rfl (lt_b rfl) ?_
  refine GoD.q rfl (QEx.cal0 (r := (iAV r2)) [(iAV a.Y), (iAV b.Y)] rfl Tryz.call29 (.cons (.tmp rfl) (.cons (.tmp rfl) .nil)) (ref01_Sub_ok hr2) rfl rfl) rfl (lt_b rfl) ?_
  refine GoD.q rfl (QEx.as (Vec.av (⟨r1, r2⟩ : Vec)) (QEx.buildZ rfl Tryz.underlying24 zt24 (by kernel_rfl) (.cons rfl (.tmp rfl) rfl rfl (le_b rfl) (.cons rfl (.tmp rfl) rfl rfl (le_b rfl) .nil)))) rfl (lt_b rfl) ?_
  refine GoD.s rfl (Z := (Vec.cells x3)) rfl rfl ts24 (.tmp rfl) rfl (.tmp rfl) rfl rfl (le_b rfl) (congrArg (fun (x : Vec) => (Vec.cells x)) hx3) ?_
  refine GoD.nil ⟨by kernel_rfl, by kernel_rfl, by kernel_rfl, by kernel_rfl, by kernel_rfl, ?_⟩
  refine GoT.nil ?_
  refine Wp.ret ?_
  cases h
  exact LeafQ.ret [] (by decide) (.cons (.agg rfl rfl ag24 ts24) .nil) rfl
theorem ref03_Saturated_ok {v_0 : Vec} {r : Vec} (h : ref03_Saturated v_0 = r) : FnR Tryz.prog 67 [(Vec.av v_0)] (Vec.av r) := by
  refine FnR.intro' (fn := Tryz.f67) (N := 10) Tryz.func67 rfl rfl (Nat.le_of_ble_eq_true rfl) [1, 2] ?_
  refine Wp.seq ?_
  refine Wp.region ?_
  refine GoT.a rfl (AEx.bx (Z := (Vec.cells v_0)) rfl (.tmp rfl) rfl rfl rfl rfl) rfl (lt_b rfl) ?_
  refine GoT.a rfl (AEx.alZ rfl zt24 rfl rfl) rfl (lt_b rfl) ?_
  refine GoT.nil ?_
  refine let_e h fun r1 hr1 h => ?_
  refine let_e h fun r2 hr2 h => ?_
  refine let_e h fun x3 hx3 h => ?_
  refine Wp.seq ?_
  refine Wp.drawn2 (n0 := 8) [] mixed ?_
  refine GoD.q rfl (QEx.fldP 0 rfl Tryz.underlying24 rfl ts3 rfl (.tmp rfl) rfl) rfl (lt_b rfl) ?_
  refine GoD.qr rfl rfl (QEx.ldP1 (Vec.cells v_0) (iAV v_0.X) rfl ag3 (.tmp rfl) rfl) rfl (lt_b rfl) ?_
  refine GoD.q rfl (QEx.cal0 (r := (iAV r1)) [(iAV v_0.X)] rfl Tryz.call43 (.cons (.tmp rfl) .nil) (ref01_Saturate_ok hr1) rfl rfl) rfl (lt_b rfl) ?_
  refine GoD.q rfl (QEx.fldP 1 rfl Tryz.underlying24 rfl ts3 rfl (.tmp rfl) rfl) rfl (lt_b rfl) ?_
  refine GoD.qr rfl rfl (QEx.ldP1 (Vec.cells v_0) (iAV v_0.Y) rfl ag3 (.tmp rfl) rfl) rfl (lt_b rfl) ?_
  refine GoD.q rfl (QEx.cal0 (r := (iAV r2)) [(iAV v_0.Y)] rfl Tryz.call43 (.cons (.tmp rfl) .nil) (ref01_Saturate_ok hr2) rfl rfl) rfl (lt_b rfl) ?_
  refine GoD.q rfl (QEx.as (Vec.av (⟨r1, r2⟩ : Vec)) (QEx.buildZ rfl Tryz.underlying24 zt24 (by kernel_rfl) (.cons rfl (.tmp rfl) rfl rfl (le_b rfl) (.cons rfl (.tmp rfl) rfl rfl (le_b rfl) .nil)))) rfl (lt_b rfl) ?_
  refine GoD.s rfl (Z := (Vec.cells x3)) rfl rfl ts24 (.tmp rfl) rfl (.tmp rfl) rfl rfl (le_b rfl) (congrArg (fun (x : Vec) => (Vec.cells x)) hx3) ?_
  refine GoD.nil ⟨by kernel_rfl, by kernel_rfl, by kernel_rfl, by kernel_rfl, by kernel_rfl, ?_⟩
  refine GoT.nil ?_
  refine Wp.ret ?_
  cases h
  exact LeafQ.ret [] (by decide) (.cons (.agg rfl rfl ag24 ts24) .nil) rfl
theorem ref01_outOfRange_ok {n_0 : Int} {r : Bool} (h : ref01_outOfRange n_0 = r) : FnR Tryz.prog 58 [(iAV n_0)] (boolAV r) := by
  refine FnR.intro' (fn := Tryz.f58) (N := 9) Tryz.func58 rfl rfl (Nat.le_of_ble_eq_true rfl) [] ?_
  refine Wp.seq ?_
  refine Wp.region ?_
  refine GoT.q rfl (QEx.as (boolAV false) (QEx.assign rfl .con)) rfl (lt_b rfl) ?_
  refine GoT.nil ?_
  refine let_e h fun x1 hx1 h => ?_
  refine Wp.seq ?_
  refine Wp.region ?_
  refine GoT.q rfl (QEx.move rfl (.tmp rfl)) rfl (lt_b rfl) ?_
  refine GoT.q rfl (QEx.gtrK rfl (.tmp rfl) .con) rfl (lt_b rfl) ?_
  refine GoT.q rfl (QEx.move rfl (.tmp rfl)) rfl (lt_b rfl) ?_
  refine GoT.g rfl rfl rfl (fun hg => QEx.move rfl (.tmp rfl)) rfl (lt_b rfl) ?_
  refine GoT.g rfl rfl rfl (fun hg => QEx.lssK rfl (.opt (.tmp rfl) hg) .con) rfl (lt_b rfl) ?_
  refine GoT.q rfl (QEx.pickK rfl (.tmp rfl) (fun hp => .con) (fun hp => (.opt (.tmp rfl) (beq_f hp)))) rfl (lt_b rfl) ?_
  refine GoT.q rfl (QEx.eq (QEx.assign rfl (.tmp rfl)) (congrArg boolAV hx1)) rfl (lt_b rfl) ?_
  refine GoT.nil ?_
  refine Wp.ret ?_
  cases h
  exact LeafQ.ret [] (by decide) (.cons (.tmp rfl) .nil) rfl
theorem ref01_Isqrt_ok {n_0 : Int} {r : Int} (h : ref01_Isqrt n_0 = some r) : FnR Tryz.prog 70 [(iAV n_0)] (iAV r) := by
  refine FnR.intro' (fn := Tryz.f70) (N := 28) Tryz.func70 rfl rfl (Nat.le_of_ble_eq_true rfl) [] ?_
  refine Wp.seq ?_
  refine Wp.region ?_
  refine GoT.q rfl (QEx.as (iAV 0) (QEx.assign rfl .con)) rfl (lt_b rfl) ?_
  refine GoT.nil ?_
  refine Wp.seq ?_
  refine let_e h fun r1 hr1 h => ?_
  refine Wp.seq ?_
  refine Wp.region ?_
  refine GoT.q rfl (QEx.move rfl (.tmp rfl)) rfl (lt_b rfl) ?_
  refine GoT.q rfl (QEx.lssK rfl (.tmp rfl) .con) rfl (lt_b rfl) ?_
  refine GoT.q rfl (QEx.move rfl (.tmp rfl)) rfl (lt_b rfl) ?_
  refine GoT.g rfl rfl rfl (fun hg => QEx.move rfl (.tmp rfl)) rfl (lt_b rfl) ?_
  refine GoT.g rfl rfl rfl (fun hg => QEx.cal0 (r := (boolAV r1)) [(iAV n_0)] rfl Tryz.call58 (.cons (.opt (.tmp rfl) hg) .nil) (ref01_outOfRange_ok hr1) rfl rfl) rfl (lt_b rfl) ?_
  refine GoT.q rfl (QEx.pickK rfl (.tmp rfl) (fun hp => .con) (fun hp => (.opt (.tmp rfl) (beq_f hp)))) rfl (lt_b rfl) ?_
  refine GoT.nil ?_
  refine Wp.condS h rfl (fun h => ?_) (fun h => ?_)
  · refine Wp.seq ?_
    refine Wp.region ?_
    refine GoT.q rfl (QEx.as (iAV 0) (QEx.assign rfl .con)) rfl (lt_b rfl) ?_
    refine GoT.nil ?_
    refine Wp.ret ?_
    cases h
    exact LeafQ.ret [] (by decide) (.cons (.tmp rfl) .nil) rfl
  · refine Wp.skip ?_
    refine Wp.seq ?_
    refine Wp.region ?_
    refine GoT.q rfl (QEx.as (iAV 0) (QEx.assign rfl .con)) rfl (lt_b rfl) ?_
    refine GoT.nil ?_
    refine Wp.join1 (fun v2 => ⟨[(3, (iAV v2))], [], []⟩) (fun v2 => ref01_Isqrt_j3 v2 = some r) ?_ ?_
    · intro v2 h
      refine Wp.seq ?_
      refine Wp.region ?_
      refine GoT.q rfl (QEx.move rfl (.tmp rfl)) rfl (lt_b rfl) ?_
      refine GoT.q rfl (QEx.assign rfl (.tmp rfl)) rfl (lt_b rfl) ?_
      refine GoT.nil ?_
      refine Wp.ret ?_
      cases h
      exact LeafQ.ret [] (by decide) (.cons (.tmp rfl) .nil) rfl
    · refine Wp.seq ?_
      refine Wp.region ?_
      refine GoT.q rfl (QEx.as (iAV 2147483648) (QEx.assign rfl .con)) rfl (lt_b rfl) ?_
      refine GoT.nil ?_
      refine Wp.block ?_
      refine Wp.loop2 (fun v3 v4 => ⟨[(0, (iAV n_0)), (3, (iAV v3)), (4, (iAV v4))], [], []⟩) (fun n v3 v4 => ref01_Isqrt_l2 n_0 ref01_Isqrt_j3 n v3 v4 = some r) fuel 0 2147483648 [] [] h (LS.to.mk (.b rfl rfl (.b rfl rfl (.b rfl rfl .n))) .n rfl) ?_
      rintro (_ | n2) v3 v4 h
      · exact none_e h
      rw [ref01_Isqrt_l2] at h
      refine Wp.seq ?_
      refine Wp.seq ?_
      refine Wp.region ?_
      refine GoT.q rfl (QEx.move rfl (.tmp rfl)) rfl (lt_b rfl) ?_
      refine GoT.q rfl (QEx.gtrK rfl (.tmp rfl) .con) rfl (lt_b rfl) ?_
      refine GoT.nil ?_
      refine Wp.condS h rfl (fun h => ?_) (fun h => ?_)
      · refine Wp.skip ?_
        refine Wp.join1 (fun v5 => ⟨[(0, (iAV n_0)), (3, (iAV v5)), (4, (iAV v4))], [], []⟩) (fun v5 => (ref01_Isqrt_j1 v4 (ref01_Isqrt_l2 n_0 ref01_Isqrt_j3 n2)) v5 = some r) ?_ ?_
        · intro v5 h
          refine let_e h fun x9 hx9 h => ?_
          refine Wp.region ?_
          refine GoT.q rfl (QEx.move rfl (.tmp rfl)) rfl (lt_b rfl) ?_
          refine GoT.q rfl (QEx.quoK rfl (.tmp rfl) .con (by decide)) rfl (lt_b rfl) ?_
          refine GoT.q rfl (QEx.eq (QEx.assign rfl (.tmp rfl)) (congrArg iAV hx9)) rfl (lt_b rfl) ?_
          refine GoT.nil ?_
          exact Round2.mk v5 x9 [] [] h (LS.to.mk (.b rfl rfl (.b rfl rfl (.b rfl rfl .n))) .n rfl)
        · refine Wp.block ?_
          refine chk_e h fun c6 h => ?_
          refine let_e h fun x7 hx7 h => ?_
          refine Wp.seq ?_
          refine Wp.region ?_
          refine GoT.q rfl (QEx.move rfl (.tmp rfl)) rfl (lt_b rfl) ?_
          refine GoT.q rfl (QEx.move rfl (.tmp rfl)) rfl (lt_b rfl) ?_
          refine GoT.q rfl (QEx.addK rfl (.tmp rfl) (.tmp rfl)) rfl (lt_b rfl) ?_
          refine GoT.q rfl (QEx.move rfl (.tmp rfl)) rfl (lt_b rfl) ?_
          refine GoT.q rfl (QEx.move rfl (.tmp rfl)) rfl (lt_b rfl) ?_
          refine GoT.q rfl (QEx.move rfl (.tmp rfl)) rfl (lt_b rfl) ?_
          refine GoT.q rfl (QEx.addK rfl (.tmp rfl) (.tmp rfl)) rfl (lt_b rfl) ?_
          refine GoT.q rfl (QEx.quoK rfl (.tmp rfl) (.tmp rfl) c6) rfl (lt_b rfl) ?_
          refine GoT.q rfl (QEx.eq (QEx.leqK rfl (.tmp rfl) (.tmp rfl)) (congrArg boolAV hx7)) rfl (lt_b rfl) ?_
          refine GoT.nil ?_
          refine Wp.condS h rfl (fun h => ?_) (fun h => ?_)
          · refine let_e h fun x8 hx8 h => ?_
            refine Wp.region ?_
            refine GoT.q rfl (QEx.move rfl (.tmp rfl)) rfl (lt_b rfl) ?_
            refine GoT.q rfl (QEx.move rfl (.tmp rfl)) rfl (lt_b rfl) ?_
            refine GoT.q rfl (QEx.addK rfl (.tmp rfl) (.tmp rfl)) rfl (lt_b rfl) ?_
            refine GoT.q rfl (QEx.eq (QEx.assign rfl (.tmp rfl)) (congrArg iAV hx8)) rfl (lt_b rfl) ?_
            refine GoT.nil ?_
            exact Joined1.mk x8 [] [] h (LS.to.mk (.b rfl rfl (.b rfl rfl (.b rfl rfl .n))) .n rfl)
          · refine Wp.skip ?_
            exact Joined1.mk v3 [] [] h (LS.to.mk (.b rfl rfl (.b rfl rfl (.b rfl rfl .n))) .n rfl)
      · refine Wp.exit ?_
        exact Joined1.mk v3 [] [] h (LS.to.mk (.b rfl rfl .n) .n rfl)
theorem ref03_Length_ok {v_0 : Vec} {r : Int} (h : ref03_Length v_0 = some r) : FnR Tryz.prog 84 [(Vec.av v_0)] (iAV r) := by
  refine FnR.intro' (fn := Tryz.f84) (N := 17) Tryz.func84 rfl rfl (Nat.le_of_ble_eq_true rfl) [1] ?_
  refine Wp.seq ?_
  refine Wp.region ?_
  refine GoT.a rfl (AEx.bx (Z := (Vec.cells v_0)) rfl (.tmp rfl) rfl rfl rfl rfl) rfl (lt_b rfl) ?_
  refine GoT.q rfl (QEx.as (iAV 0) (QEx.assign rfl .con)) rfl (lt_b rfl) ?_
  refine GoT.nil ?_
  refine let_e h fun r1 hr1 h => ?_
  refine let_e h fun x2 hx2 h => ?_
  refine Wp.seq ?_
  refine Wp.region ?_
  refine GoT.qr rfl rfl (QEx.ldP (Vec.cells v_0) (Vec.av v_0) rfl ag24 ts24 (.tmp rfl) (le_b rfl) rfl) rfl (lt_b rfl) ?_
  refine GoT.q rfl (QEx.cal0 (r := (Vec.av r1)) [(Vec.av v_0)] rfl Tryz.call67 (.cons (.tmp rfl) .nil) (ref03_Saturated_ok hr1) rfl rfl) rfl (lt_b rfl) ?_
  refine GoT.s rfl (AEx.sto (Z := (Vec.cells x2)) rfl rfl ts24 (.tmp rfl) rfl (.tmp rfl) rfl rfl (le_b rfl) (congrArg (fun (x : Vec) => (Vec.cells x)) hx2)) rfl ?_
  refine GoT.nil ?_
  refine bind_e h fun r3 hr3 h => ?_
  refine Wp.seq ?_
  refine Wp.region ?_
  refine GoT.q rfl (QEx.fldP 0 rfl Tryz.underlying24 rfl ts3 rfl (.tmp rfl) rfl) rfl (lt_b rfl) ?_
  refine GoT.qr rfl rfl (QEx.ldP1 (Vec.cells x2) (iAV x2.X) rfl ag3 (.tmp rfl) rfl) rfl (lt_b rfl) ?_
  refine GoT.q rfl (QEx.fldP 0 rfl Tryz.underlying24 rfl ts3 rfl (.tmp rfl) rfl) rfl (lt_b rfl) ?_
  refine GoT.qr rfl rfl (QEx.ldP1 (Vec.cells x2) (iAV x2.X) rfl ag3 (.tmp rfl) rfl) rfl (lt_b rfl) ?_
  refine GoT.q rfl (QEx.mulK rfl (.tmp rfl) (.tmp rfl)) rfl (lt_b rfl) ?_
  refine GoT.q rfl (QEx.fldP 1 rfl Tryz.underlying24 rfl ts3 rfl (.tmp rfl) rfl) rfl (lt_b rfl) ?_
  refine GoT.qr rfl rfl (QEx.ldP1 (Vec.cells x2) (iAV x2.Y) rfl ag3 (.tmp rfl) rfl) rfl (lt_b rfl) ?_
  refine GoT.q rfl (QEx.fldP 1 rfl Tryz.underlying24 rfl ts3 rfl (.tmp rfl) rfl) rfl (lt_b rfl) ?_
  refine GoT.qr rfl rfl (QEx.ldP1 (Vec.cells x2) (iAV x2.Y) rfl ag3 (.tmp rfl) rfl) rfl (lt_b rfl) ?_
  refine GoT.q rfl (QEx.mulK rfl (.tmp rfl) (.tmp rfl)) rfl (lt_b rfl) ?_
  refine GoT.q rfl (QEx.addK rfl (.tmp rfl) (.tmp rfl)) rfl (lt_b rfl) ?_
  refine GoT.q rfl (QEx.cal0 (r := (iAV r3)) [(iAV (w64 ((w64 (x2.X * x2.X)) + (w64 (x2.Y * x2.Y)))))] rfl Tryz.call70 (.cons (.tmp rfl) .nil) (ref01_Isqrt_ok hr3) rfl rfl) rfl (lt_b rfl) ?_
  refine GoT.q rfl (QEx.assign rfl (.tmp rfl)) rfl (lt_b rfl) ?_
  refine GoT.nil ?_
  refine Wp.ret ?_
  cases h
  exact LeafQ.ret [] (by decide) (.cons (.tmp rfl) .nil) rfl
theorem ref11_inRange_ok {v_0 : Vec} {r : Bool} (h : ref11_inRange v_0 = r) : FnR Tryz.prog 115 [(Vec.av v_0)] (boolAV r) := by
  refine FnR.intro' (fn := Tryz.f115) (N := 21) Tryz.func115 rfl rfl (Nat.le_of_ble_eq_true rfl) [1] ?_
  refine Wp.seq ?_
  refine Wp.region ?_
  refine GoT.a rfl (AEx.bx (Z := (Vec.cells v_0)) rfl (.tmp rfl) rfl rfl rfl rfl) rfl (lt_b rfl) ?_
  refine GoT.q rfl (QEx.as (boolAV false) (QEx.assign rfl .con)) rfl (lt_b rfl) ?_
  refine GoT.nil ?_
  refine let_e h fun x1 hx1 h => ?_
  refine Wp.seq ?_
  refine Wp.region ?_
  refine GoT.q rfl (QEx.fldP 0 rfl Tryz.underlying24 rfl ts3 rfl (.tmp rfl) rfl) rfl (lt_b rfl) ?_
  refine GoT.qr rfl rfl (QEx.ldP1 (Vec.cells v_0) (iAV v_0.X) rfl ag3 (.tmp rfl) rfl) rfl (lt_b rfl) ?_
  refine GoT.q rfl (QEx.geqK rfl (.tmp rfl) .con) rfl (lt_b rfl) ?_
  refine GoT.q rfl (QEx.move rfl (.tmp rfl)) rfl (lt_b rfl) ?_
  refine GoT.g rfl rfl rfl (fun hg => QEx.fldP 0 rfl Tryz.underlying24 rfl ts3 rfl (.tmp rfl) rfl) rfl (lt_b rfl) ?_
  refine GoT.gr rfl rfl rfl rfl (fun hg => QEx.ldP1 (Vec.cells v_0) (iAV v_0.X) rfl ag3 (.opt (.tmp rfl) hg) rfl) rfl (lt_b rfl) ?_
  refine GoT.g rfl rfl rfl (fun hg => QEx.leqK rfl (.opt (.tmp rfl) hg) .con) rfl (lt_b rfl) ?_
  refine GoT.q rfl (QEx.pickK rfl (.tmp rfl) (fun hp => (.opt (.tmp rfl) (beq_t hp))) (fun hp => .con)) rfl (lt_b rfl) ?_
  refine GoT.q rfl (QEx.move rfl (.tmp rfl)) rfl (lt_b rfl) ?_
  refine GoT.g rfl rfl rfl (fun hg => QEx.fldP 1 rfl Tryz.underlying24 rfl ts3 rfl (.tmp rfl) rfl) rfl (lt_b rfl) ?_
  refine GoT.gr rfl rfl rfl rfl (fun hg => QEx.ldP1 (Vec.cells v_0) (iAV v_0.Y) rfl ag3 (.opt (.tmp rfl) hg) rfl) rfl (lt_b rfl) ?_
  refine GoT.g rfl rfl rfl (fun hg => QEx.geqK rfl (.opt (.tmp rfl) hg) .con) rfl (lt_b rfl) ?_
  refine GoT.q rfl (QEx.pickK rfl (.tmp rfl) (fun hp => (.opt (.tmp rfl) (beq_t hp))) (fun hp => .con)) rfl (lt_b rfl) ?_
  refine GoT.q rfl (QEx.move rfl (.tmp rfl)) rfl (lt_b rfl) ?_
  refine GoT.g rfl rfl rfl (fun hg => QEx.fldP 1 rfl Tryz.underlying24 rfl ts3 rfl (.tmp rfl) rfl) rfl (lt_b rfl) ?_
  refine GoT.gr rfl rfl rfl rfl (fun hg => QEx.ldP1 (Vec.cells v_0) (iAV v_0.Y) rfl ag3 (.opt (.tmp rfl) hg) rfl) rfl (lt_b rfl) ?_
  refine GoT.g rfl rfl rfl (fun hg => QEx.leqK rfl (.opt (.tmp rfl) hg) .con) rfl (lt_b rfl) ?_
  refine GoT.q rfl (QEx.pickK rfl (.tmp rfl) (fun hp => (.opt (.tmp rfl) (beq_t hp))) (fun hp => .con)) rfl (lt_b rfl) ?_
  refine GoT.q rfl (QEx.eq (QEx.assign rfl (.tmp rfl)) (congrArg boolAV hx1)) rfl (lt_b rfl) ?_
  refine GoT.nil ?_
  refine Wp.ret ?_
  cases h
  exact LeafQ.ret [] (by decide) (.cons (.tmp rfl) .nil) rfl
theorem ref03_Orientation_ok {a : Vec} {b : Vec} {c_2 : Vec} {r : Int} (h : ref03_Orientation a b c_2 = r) : FnR Tryz.prog 116 [(Vec.av a), (Vec.av b), (Vec.av c_2)] (iAV r) := by
  refine FnR.intro' (fn := Tryz.f116) (N := 41) Tryz.func116 rfl rfl (Nat.le_of_ble_eq_true rfl) [3, 4, 5] ?_
  refine Wp.seq ?_
  refine Wp.region ?_
  refine GoT.a rfl (AEx.bx (Z := (Vec.cells a)) rfl (.tmp rfl) rfl rfl rfl rfl) rfl (lt_b rfl) ?_
  refine GoT.a rfl (AEx.bx (Z := (Vec.cells b)) rfl (.tmp rfl) rfl rfl rfl rfl) rfl (lt_b rfl) ?_
  refine GoT.a rfl (AEx.bx (Z := (Vec.cells c_2)) rfl (.tmp rfl) rfl rfl rfl rfl) rfl (lt_b rfl) ?_
  refine GoT.q rfl (QEx.as (iAV 0) (QEx.assign rfl .con)) rfl (lt_b rfl) ?_
  refine GoT.nil ?_
  refine let_e h fun r1 hr1 h => ?_
  refine let_e h fun x2 hx2 h => ?_
  refine Wp.seq ?_
  refine Wp.region ?_
  refine GoT.qr rfl rfl (QEx.ldP (Vec.cells a) (Vec.av a) rfl ag24 ts24 (.tmp rfl) (le_b rfl) rfl) rfl (lt_b rfl) ?_
  refine GoT.q rfl (QEx.cal0 (r := (Vec.av r1)) [(Vec.av a)] rfl Tryz.call67 (.cons (.tmp rfl) .nil) (ref03_Saturated_ok hr1) rfl rfl) rfl (lt_b rfl) ?_
  refine GoT.s rfl (AEx.sto (Z := (Vec.cells x2)) rfl rfl ts24 (.tmp rfl) rfl (.tmp rfl) rfl rfl (le_b rfl) (congrArg (fun (x : Vec) => (Vec.cells x)) hx2)) rfl ?_
  refine GoT.nil ?_
  refine let_e h fun r3 hr3 h => ?_
  refine let_e h fun x4 hx4 h => ?_
  refine Wp.seq ?_
  refine Wp.region ?_
  refine GoT.qr rfl rfl (QEx.ldP (Vec.cells b) (Vec.av b) rfl ag24 ts24 (.tmp rfl) (le_b rfl) rfl) rfl (lt_b rfl) ?_
  refine GoT.q rfl (QEx.cal0 (r := (Vec.av r3)) [(Vec.av b)] rfl Tryz.call67 (.cons (.tmp rfl) .nil) (ref03_Saturated_ok hr3) rfl rfl) rfl (lt_b rfl) ?_
  refine GoT.s rfl (AEx.sto (Z := (Vec.cells x4)) rfl rfl ts24 (.tmp rfl) rfl (.tmp rfl) rfl rfl (le_b rfl) (congrArg (fun (x : Vec) => (Vec.cells x)) hx4)) rfl ?_
  refine GoT.nil ?_
  refine let_e h fun r5 hr5 h => ?_
  refine let_e h fun x6 hx6 h => ?_
  refine Wp.seq ?_
  refine Wp.region ?_
  refine GoT.qr rfl rfl (QEx.ldP (Vec.cells c_2) (Vec.av c_2) rfl ag24 ts24 (.tmp rfl) (le_b rfl) rfl) rfl (lt_b rfl) ?_
  refine GoT.q rfl (QEx.cal0 (r := (Vec.av r5)) [(Vec.av c_2)] rfl Tryz.call67 (.cons (.tmp rfl) .nil) (ref03_Saturated_ok hr5) rfl rfl) rfl (lt_b rfl) ?_
  refine GoT.s rfl (AEx.sto (Z := (Vec.cells x6)) rfl rfl ts24 (.tmp rfl) rfl (.tmp rfl) rfl rfl (le_b rfl) (congrArg (fun (x : Vec) => (Vec.cells x)) hx6)) rfl ?_
  refine GoT.nil ?_
  refine let_e h fun x7 hx7 h => ?_
  refine Wp.seq ?_
  refine Wp.region ?_
  refine GoT.q rfl (QEx.fldP 0 rfl Tryz.underlying24 rfl ts3 rfl (.tmp rfl) rfl) rfl (lt_b rfl) ?_
  refine GoT.qr rfl rfl (QEx.ldP1 (Vec.cells x4) (iAV x4.X) rfl ag3 (.tmp rfl) rfl) rfl (lt_b rfl) ?_
  refine GoT.q rfl (QEx.fldP 0 rfl Tryz.underlying24 rfl ts3 rfl (.tmp rfl) rfl) rfl (lt_b rfl) ?_
  refine GoT.qr rfl rfl (QEx.ldP1 (Vec.cells x2) (iAV x2.X) rfl ag3 (.tmp rfl) rfl) rfl (lt_b rfl) ?_
  refine GoT.q rfl (QEx.subK rfl (.tmp rfl) (.tmp rfl)) rfl (lt_b rfl) ?_
  refine GoT.q rfl (QEx.fldP 1 rfl Tryz.underlying24 rfl ts3 rfl (.tmp rfl) rfl) rfl (lt_b rfl) ?_
  refine GoT.qr rfl rfl (QEx.ldP1 (Vec.cells x6) (iAV x6.Y) rfl ag3 (.tmp rfl) rfl) rfl (lt_b rfl) ?_
  refine GoT.q rfl (QEx.fldP 1 rfl Tryz.underlying24 rfl ts3 rfl (.tmp rfl) rfl) rfl (lt_b rfl) ?_
  refine GoT.qr rfl rfl (QEx.ldP1 (Vec.cells x2) (iAV x2.Y) rfl ag3 (.tmp rfl) rfl) rfl (lt_b rfl) ?_
  refine GoT.q rfl (QEx.subK rfl (.tmp rfl) (.tmp rfl)) rfl (lt_b rfl) ?_
  refine GoT.q rfl (QEx.mulK rfl (.tmp rfl) (.tmp rfl)) rfl (lt_b rfl) ?_
  refine GoT.q rfl (QEx.fldP 1 rfl Tryz.underlying24 rfl ts3 rfl (.tmp rfl) rfl) rfl (lt_b rfl) ?_
  refine GoT.qr rfl rfl (QEx.ldP1 (Vec.cells x4) (iAV x4.Y) rfl ag3 (.tmp rfl) rfl) rfl (lt_b rfl) ?_
  refine GoT.q rfl (QEx.fldP 1 rfl Tryz.underlying24 rfl ts3 rfl (.tmp rfl) rfl) rfl (lt_b rfl) ?_
  refine GoT.qr rfl rfl (QEx.ldP1 (Vec.cells x2) (iAV x2.Y) rfl ag3 (.tmp rfl) rfl) rfl (lt_b rfl) ?_
  refine GoT.q rfl (QEx.subK rfl (.tmp rfl) (.tmp rfl)) rfl (lt_b rfl) ?_
  refine GoT.q rfl (QEx.fldP 0 rfl Tryz.underlying24 rfl ts3 rfl (.tmp rfl) rfl) rfl (lt_b rfl) ?_
  refine GoT.qr rfl rfl (QEx.ldP1 (Vec.cells x6) (iAV x6.X) rfl ag3 (.tmp rfl) rfl) rfl (lt_b rfl) ?_
  refine GoT.q rfl (QEx.fldP 0 rfl Tryz.underlying24 rfl ts3 rfl (.tmp rfl) rfl) rfl (lt_b rfl) ?_
  refine GoT.qr rfl rfl (QEx.ldP1 (Vec.cells x2) (iAV x2.X) rfl ag3 (.tmp rfl) rfl) rfl (lt_b rfl) ?_
  refine GoT.q rfl (QEx.subK rfl (.tmp rfl) (.tmp rfl)) rfl (lt_b rfl) ?_
  refine GoT.q rfl (QEx.mulK rfl (.tmp rfl) (.tmp rfl)) rfl (lt_b rfl) ?_
  refine GoT.q rfl (QEx.eq (QEx.subK rfl (.tmp rfl) (.tmp rfl)) (congrArg iAV hx7)) rfl (lt_b rfl) ?_
  refine GoT.q rfl (QEx.assign rfl (.tmp rfl)) rfl (lt_b rfl) ?_
  refine GoT.nil ?_
  refine Wp.seq ?_
  refine Wp.seq ?_
  refine Wp.region ?_
  refine GoT.q rfl (QEx.move rfl (.tmp rfl)) rfl (lt_b rfl) ?_
  refine GoT.q rfl (QEx.gtrK rfl (.tmp rfl) .con) rfl (lt_b rfl) ?_
  refine GoT.nil ?_
  refine Wp.condS h rfl (fun h => ?_) (fun h => ?_)
  · refine Wp.seq ?_
    refine Wp.region ?_
    refine GoT.q rfl (QEx.as (iAV 1) (QEx.assign rfl .con)) rfl (lt_b rfl) ?_
    refine GoT.nil ?_
    refine Wp.ret ?_
    cases h
    exact LeafQ.ret [] (by decide) (.cons (.tmp rfl) .nil) rfl
  · refine Wp.skip ?_
    refine Wp.seq ?_
    refine Wp.seq ?_
    refine Wp.region ?_
    refine GoT.q rfl (QEx.move rfl (.tmp rfl)) rfl (lt_b rfl) ?_
    refine GoT.q rfl (QEx.lssK rfl (.tmp rfl) .con) rfl (lt_b rfl) ?_
    refine GoT.nil ?_
    refine Wp.condS h rfl (fun h => ?_) (fun h => ?_)
    · refine Wp.seq ?_
      refine Wp.region ?_
      refine GoT.q rfl (QEx.as (iAV (-1)) (QEx.assign rfl .con)) rfl (lt_b rfl) ?_
      refine GoT.nil ?_
      refine Wp.ret ?_
      cases h
      exact LeafQ.ret [] (by decide) (.cons (.tmp rfl) .nil) rfl
    · refine Wp.skip ?_
      refine Wp.seq ?_
      refine Wp.region ?_
      refine GoT.q rfl (QEx.as (iAV 0) (QEx.assign rfl .con)) rfl (lt_b rfl) ?_
      refine GoT.nil ?_
      refine Wp.ret ?_
      cases h
      exact LeafQ.ret [] (by decide) (.cons (.tmp rfl) .nil) rfl
theorem ref11_IsConvex_ok {vertices : List Vec} {r : Bool} (h : ref11_IsConvex vertices = some r) : FnR Tryz.prog 104 [((slAV 2 Vec.av) vertices)] (boolAV r) := by
  refine FnR.intro' (fn := Tryz.f104) (N := 65) Tryz.func104 rfl rfl (Nat.le_of_ble_eq_true rfl) [8, 21, 50, 54, 58] ?_
  refine Wp.seq ?_
  refine Wp.region ?_
  refine GoT.q rfl (QEx.as (boolAV false) (QEx.assign rfl .con)) rfl (lt_b rfl) ?_
  refine GoT.nil ?_
  refine Wp.seq ?_
  refine Wp.region ?_
  refine GoT.q rfl (QEx.move rfl (.tmp rfl)) rfl (lt_b rfl) ?_
  refine GoT.q rfl (QEx.lenL rfl ⟨_, Tryz.underlying40⟩ (.tmp rfl)) rfl (lt_b rfl) ?_
  refine GoT.q rfl (QEx.assign rfl (.tmp rfl)) rfl (lt_b rfl) ?_
  refine GoT.nil ?_
  refine Wp.seq ?_
  refine Wp.seq ?_
  refine Wp.region ?_
  refine GoT.q rfl (QEx.move rfl (.tmp rfl)) rfl (lt_b rfl) ?_
  refine GoT.q rfl (QEx.lssK rfl (.tmp rfl) .con) rfl (lt_b rfl) ?_
  refine GoT.q rfl (QEx.move rfl (.tmp rfl)) rfl (lt_b rfl) ?_
  refine GoT.g rfl rfl rfl (fun hg => QEx.move rfl (.tmp rfl)) rfl (lt_b rfl) ?_
  refine GoT.g rfl rfl rfl (fun hg => QEx.gtrK rfl (.opt (.tmp rfl) hg) .con) rfl (lt_b rfl) ?_
  refine GoT.q rfl (QEx.pickK rfl (.tmp rfl) (fun hp => .con) (fun hp => (.opt (.tmp rfl) (beq_f hp)))) rfl (lt_b rfl) ?_
  refine GoT.nil ?_
  refine Wp.condS h rfl (fun h => ?_) (fun h => ?_)
  · refine Wp.seq ?_
    refine Wp.region ?_
    refine GoT.q rfl (QEx.as (boolAV false) (QEx.assign rfl .con)) rfl (lt_b rfl) ?_
    refine GoT.nil ?_
    refine Wp.ret ?_
    cases h
    exact LeafQ.ret [] (by decide) (.cons (.tmp rfl) .nil) rfl
  · refine Wp.skip ?_
    refine Wp.join0 (⟨[(0, ((slAV 2 Vec.av) vertices)), (3, (iAV ((vertices).length : Int)))], [], [8, 21, 50, 54, 58]⟩) ((ref11_IsConvex_j6 vertices) = some r) ?_ ?_
    · intro h
      refine Wp.join0 (⟨[], [], [8, 21, 50, 54, 58]⟩) (ref11_IsConvex_j5 = some r) ?_ ?_
      · intro h
        refine Wp.seq ?_
        refine Wp.region ?_
        refine GoT.q rfl (QEx.as (boolAV true) (QEx.assign rfl .con)) rfl (lt_b rfl) ?_
        refine GoT.nil ?_
        refine Wp.ret ?_
        cases h
        exact LeafQ.ret [] (by decide) (.cons (.tmp rfl) .nil) rfl
      · refine Wp.seq ?_
        refine Wp.region ?_
        refine GoT.q rfl (QEx.as (iAV 0) (QEx.assign rfl .con)) rfl (lt_b rfl) ?_
        refine GoT.nil ?_
        refine Wp.block ?_
        refine Wp.loop1 (fun v5 => ⟨[(0, ((slAV 2 Vec.av) vertices)), (3, (iAV ((vertices).length : Int))), (5, (iAV v5))], [], [8, 21, 50, 54, 58]⟩) (fun n v5 => ref11_IsConvex_l4 vertices ref11_IsConvex_j5 n v5 = some r) fuel 0 [] [] h (LS.to.mk (.b rfl rfl (.b rfl rfl (.b rfl rfl .n))) .n rfl) ?_
        rintro (_ | n4) v5 h
        · exact none_e h
        rw [ref11_IsConvex_l4] at h
        refine Wp.seq ?_
        refine Wp.seq ?_
        refine Wp.region ?_
        refine GoT.q rfl (QEx.move rfl (.tmp rfl)) rfl (lt_b rfl) ?_
        refine GoT.q rfl (QEx.move rfl (.tmp rfl)) rfl (lt_b rfl) ?_
        refine GoT.q rfl (QEx.lssK rfl (.tmp rfl) (.tmp rfl)) rfl (lt_b rfl) ?_
        refine GoT.nil ?_
        refine Wp.condS h rfl (fun h => ?_) (fun h => ?_)
        · refine Wp.skip ?_
          refine Wp.join0 (⟨[(0, ((slAV 2 Vec.av) vertices)), (3, (iAV ((vertices).length : Int))), (5, (iAV v5))], [], [8, 21, 50, 54, 58]⟩) ((ref11_IsConvex_j3 v5 (ref11_IsConvex_l4 vertices ref11_IsConvex_j5 n4)) = some r) ?_ ?_
          · intro h
            refine let_e h fun x14 hx14 h => ?_
            refine Wp.region ?_
            refine GoT.q rfl (QEx.move rfl (.tmp rfl)) rfl (lt_b rfl) ?_
            refine GoT.q rfl (QEx.addK rfl (.tmp rfl) .con) rfl (lt_b rfl) ?_
            refine GoT.q rfl (QEx.eq (QEx.assign rfl (.tmp rfl)) (congrArg iAV hx14)) rfl (lt_b rfl) ?_
            refine GoT.nil ?_
            exact Round1.mk x14 [] [] h (LS.to.mk (.b rfl rfl (.b rfl rfl (.b rfl rfl .n))) .n rfl)
          · refine Wp.block ?_
            refine chk_e h fun c6 h => ?_
            refine let_e h fun x7 hx7 h => ?_
            refine Wp.seq ?_
            refine Wp.region ?_
            refine GoT.q rfl (QEx.move rfl (.tmp rfl)) rfl (lt_b rfl) ?_
            refine GoT.q rfl (QEx.addK rfl (.tmp rfl) .con) rfl (lt_b rfl) ?_
            refine GoT.q rfl (QEx.move rfl (.tmp rfl)) rfl (lt_b rfl) ?_
            refine GoT.q rfl (QEx.remK rfl (.tmp rfl) (.tmp rfl) c6) rfl (lt_b rfl) ?_
            refine GoT.q rfl (QEx.eq (QEx.assign rfl (.tmp rfl)) (congrArg iAV hx7)) rfl (lt_b rfl) ?_
            refine GoT.nil ?_
            refine Wp.seq ?_
            refine Wp.region ?_
            refine GoT.q rfl (QEx.as (iAV 0) (QEx.assign rfl .con)) rfl (lt_b rfl) ?_
            refine GoT.nil ?_
            refine Wp.block ?_
            refine Wp.loop1 (fun v8 => ⟨[(0, ((slAV 2 Vec.av) vertices)), (3, (iAV ((vertices).length : Int))), (5, (iAV v5)), (6, (iAV x7)), (7, (iAV v8))], [], [8, 21, 50, 54, 58]⟩) (fun n v8 => ref11_IsConvex_l2 vertices v5 (ref11_IsConvex_j3 v5 (ref11_IsConvex_l4 vertices ref11_IsConvex_j5 n4)) x7 n v8 = some r) fuel 0 [] [] h (LS.to.mk (.b rfl rfl (.b rfl rfl (.b rfl rfl (.b rfl rfl (.b rfl rfl .n))))) .n rfl) ?_
            rintro (_ | n6) v8 h
            · exact none_e h
            rw [ref11_IsConvex_l2] at h
            refine Wp.seq ?_
            refine Wp.seq ?_
            refine Wp.region ?_
            refine GoT.q rfl (QEx.move rfl (.tmp rfl)) rfl (lt_b rfl) ?_
            refine GoT.q rfl (QEx.move rfl (.tmp rfl)) rfl (lt_b rfl) ?_
            refine GoT.q rfl (QEx.lssK rfl (.tmp rfl) (.tmp rfl)) rfl (lt_b rfl) ?_
            refine GoT.nil ?_
            refine Wp.condS h rfl (fun h => ?_) (fun h => ?_)
            · refine Wp.skip ?_
              refine Wp.seq ?_
              refine Wp.block ?_
              refine chk_e h fun c9 h => ?_
              refine chk_e h fun c10 h => ?_
              refine chk_e h fun c11 h => ?_
              refine let_e h fun r12 hr12 h => ?_
              refine Wp.seq ?_
              refine Wp.drawn2 (n0 := 24) [8, 21, 50, 54, 58] mixed ?_
              refine GoD.q rfl (QEx.move rfl (.tmp rfl)) rfl (lt_b rfl) ?_
              refine GoD.q rfl (QEx.move rfl (.tmp rfl)) rfl (lt_b rfl) ?_
              refine GoD.q rfl (QEx.neqK rfl (.tmp rfl) (.tmp rfl)) rfl (lt_b rfl) ?_
              refine GoD.q rfl (QEx.move rfl (.tmp rfl)) rfl (lt_b rfl) ?_
              refine GoD.g rfl rfl rfl (fun hg => QEx.move rfl (.tmp rfl)) rfl (lt_b rfl) ?_
              refine GoD.g rfl rfl rfl (fun hg => QEx.move rfl (.tmp rfl)) rfl (lt_b rfl) ?_
              refine GoD.g rfl rfl rfl (fun hg => QEx.neqK rfl (.opt (.tmp rfl) hg) (.opt (.tmp rfl) hg)) rfl (lt_b rfl) ?_
              refine GoD.q rfl (QEx.pickK rfl (.tmp rfl) (fun hp => (.opt (.tmp rfl) (beq_t hp))) (fun hp => .con)) rfl (lt_b rfl) ?_
              refine GoD.q rfl (QEx.move rfl (.tmp rfl)) rfl (lt_b rfl) ?_
              refine GoD.g rfl rfl rfl (fun hg => QEx.move rfl (.tmp rfl)) rfl (lt_b rfl) ?_
              refine GoD.g rfl rfl rfl (fun hg => QEx.move rfl (.tmp rfl)) rfl (lt_b rfl) ?_
              refine GoD.g rfl rfl rfl (fun hg => QEx.as (.cptr (Vec.cells (ix vertices v5))) (QEx.idxL (E := Vec.av) rfl et40 (.opt (.tmp rfl) hg) (.opt (.tmp rfl) hg) (c9 hg))) rfl (lt_b rfl) ?_
              refine GoD.g rfl rfl rfl (fun hg => QEx.ldC (x := (Vec.av (ix vertices v5))) rfl ag24 ts24 (.opt (.tmp rfl) hg) (.inl ⟨rfl, rfl, rfl⟩)) rfl (lt_b rfl) ?_
              refine GoD.g rfl rfl rfl (fun hg => QEx.move rfl (.tmp rfl)) rfl (lt_b rfl) ?_
              refine GoD.g rfl rfl rfl (fun hg => QEx.move rfl (.tmp rfl)) rfl (lt_b rfl) ?_
              refine GoD.g rfl rfl rfl (fun hg => QEx.as (.cptr (Vec.cells (ix vertices x7))) (QEx.idxL (E := Vec.av) rfl et40 (.opt (.tmp rfl) hg) (.opt (.tmp rfl) hg) (c10 hg))) rfl (lt_b rfl) ?_
              refine GoD.g rfl rfl rfl (fun hg => QEx.ldC (x := (Vec.av (ix vertices x7))) rfl ag24 ts24 (.opt (.tmp rfl) hg) (.inl ⟨rfl, rfl, rfl⟩)) rfl (lt_b rfl) ?_
              refine GoD.g rfl rfl rfl (fun hg => QEx.move rfl (.tmp rfl)) rfl (lt_b rfl) ?_
              refine GoD.g rfl rfl rfl (fun hg => QEx.move rfl (.tmp rfl)) rfl (lt_b rfl) ?_
              refine GoD.g rfl rfl rfl (fun hg => QEx.as (.cptr (Vec.cells (ix vertices v8))) (QEx.idxL (E := Vec.av) rfl et40 (.opt (.tmp rfl) hg) (.opt (.tmp rfl) hg) (c11 hg))) rfl (lt_b rfl) ?_
              refine GoD.g rfl rfl rfl (fun hg => QEx.ldC (x := (Vec.av (ix vertices v8))) rfl ag24 ts24 (.opt (.tmp rfl) hg) (.inl ⟨rfl, rfl, rfl⟩)) rfl (lt_b rfl) ?_
              refine GoD.g rfl rfl rfl (fun hg => QEx.cal0 (r := (iAV r12)) [(Vec.av (ix vertices v5)), (Vec.av (ix vertices x7)), (Vec.av (ix vertices v8))] rfl Tryz.call116 (.cons (.opt (.tmp rfl) hg) (.cons (.opt (.tmp rfl) hg) (.cons (.opt (.tmp rfl) hg) .nil))) (ref03_Orientation_ok hr12) rfl rfl) rfl (lt_b rfl) ?_
              refine GoD.g rfl rfl rfl (fun hg => QEx.neqK rfl (.opt (.tmp rfl) hg) .con) rfl (lt_b rfl) ?_
              refine GoD.q rfl (QEx.pickK rfl (.tmp rfl) (fun hp => (.opt (.tmp rfl) (beq_t hp))) (fun hp => .con)) rfl (lt_b rfl) ?_
              refine GoD.nil ⟨by kernel_rfl, by kernel_rfl, by kernel_rfl, by kernel_rfl, by kernel_rfl, ?_⟩
              refine GoT.nil ?_
              refine Wp.condS h rfl (fun h => ?_) (fun h => ?_)
              · refine Wp.seq ?_
                refine Wp.region ?_
                refine GoT.q rfl (QEx.as (boolAV false) (QEx.assign rfl .con)) rfl (lt_b rfl) ?_
                refine GoT.nil ?_
                refine Wp.ret ?_
                cases h
                exact LeafQ.ret [] (by decide) (.cons (.tmp rfl) .nil) rfl
              · refine Wp.skip ?_
                refine let_e h fun x13 hx13 h => ?_
                refine Wp.region ?_
                refine GoT.q rfl (QEx.move rfl (.tmp rfl)) rfl (lt_b rfl) ?_
                refine GoT.q rfl (QEx.addK rfl (.tmp rfl) .con) rfl (lt_b rfl) ?_
                refine GoT.q rfl (QEx.eq (QEx.assign rfl (.tmp rfl)) (congrArg iAV hx13)) rfl (lt_b rfl) ?_
                refine GoT.nil ?_
                exact Round1.mk x13 [] [] h (LS.to.mk (.b rfl rfl (.b rfl rfl (.b rfl rfl (.b rfl rfl (.b rfl rfl .n))))) .n rfl)
            · refine Wp.exit ?_
              exact Joined0.mk [] [] h (LS.to.mk (.b rfl rfl (.b rfl rfl (.b rfl rfl .n))) .n rfl)
        · refine Wp.exit ?_
          exact Joined0.mk [] [] h (LS.to.mk .n .n rfl)
    · refine Wp.seq ?_
      refine Wp.region ?_
      refine GoT.q rfl (QEx.as (iAV 0) (QEx.assign rfl .con)) rfl (lt_b rfl) ?_
      refine GoT.nil ?_
      refine Wp.block ?_
      refine Wp.loop1 (fun v1 => ⟨[(0, ((slAV 2 Vec.av) vertices)), (3, (iAV ((vertices).length : Int))), (4, (iAV v1))], [], [8, 21, 50, 54, 58]⟩) (fun n v1 => ref11_IsConvex_l1 vertices (ref11_IsConvex_j6 vertices) n v1 = some r) fuel 0 [] [] h (LS.to.mk (.b rfl rfl (.b rfl rfl (.b rfl rfl .n))) .n rfl) ?_
      rintro (_ | n2) v1 h
      · exact none_e h
      rw [ref11_IsConvex_l1] at h
      refine Wp.seq ?_
      refine Wp.seq ?_
      refine Wp.region ?_
      refine GoT.q rfl (QEx.move rfl (.tmp rfl)) rfl (lt_b rfl) ?_
      refine GoT.q rfl (QEx.move rfl (.tmp rfl)) rfl (lt_b rfl) ?_
      refine GoT.q rfl (QEx.lssK rfl (.tmp rfl) (.tmp rfl)) rfl (lt_b rfl) ?_
      refine GoT.nil ?_
      refine Wp.condS h rfl (fun h => ?_) (fun h => ?_)
      · refine Wp.skip ?_
        refine Wp.seq ?_
        refine Wp.block ?_
        refine chk_e h fun c2 h => ?_
        refine let_e h fun r3 hr3 h => ?_
        refine Wp.seq ?_
        refine Wp.region ?_
        refine GoT.q rfl (QEx.move rfl (.tmp rfl)) rfl (lt_b rfl) ?_
        refine GoT.q rfl (QEx.move rfl (.tmp rfl)) rfl (lt_b rfl) ?_
        refine GoT.q rfl (QEx.as (.cptr (Vec.cells (ix vertices v1))) (QEx.idxL (E := Vec.av) rfl et40 (.tmp rfl) (.tmp rfl) c2)) rfl (lt_b rfl) ?_
        refine GoT.q rfl (QEx.ldC (x := (Vec.av (ix vertices v1))) rfl ag24 ts24 (.tmp rfl) (.inl ⟨rfl, rfl, rfl⟩)) rfl (lt_b rfl) ?_
        refine GoT.q rfl (QEx.cal0 (r := (boolAV r3)) [(Vec.av (ix vertices v1))] rfl Tryz.call115 (.cons (.tmp rfl) .nil) (ref11_inRange_ok hr3) rfl rfl) rfl (lt_b rfl) ?_
        refine GoT.q rfl (QEx.notK rfl (.tmp rfl)) rfl (lt_b rfl) ?_
        refine GoT.nil ?_
        refine Wp.condS h rfl (fun h => ?_) (fun h => ?_)
        · refine Wp.seq ?_
          refine Wp.region ?_
          refine GoT.q rfl (QEx.as (boolAV false) (QEx.assign rfl .con)) rfl (lt_b rfl) ?_
          refine GoT.nil ?_
          refine Wp.ret ?_
          cases h
          exact LeafQ.ret [] (by decide) (.cons (.tmp rfl) .nil) rfl
        · refine Wp.skip ?_
          refine let_e h fun x4 hx4 h => ?_
          refine Wp.region ?_
          refine GoT.q rfl (QEx.move rfl (.tmp rfl)) rfl (lt_b rfl) ?_
          refine GoT.q rfl (QEx.addK rfl (.tmp rfl) .con) rfl (lt_b rfl) ?_
          refine GoT.q rfl (QEx.eq (QEx.assign rfl (.tmp rfl)) (congrArg iAV hx4)) rfl (lt_b rfl) ?_
          refine GoT.nil ?_
          exact Round1.mk x4 [] [] h (LS.to.mk (.b rfl rfl (.b rfl rfl (.b rfl rfl .n))) .n rfl)
      · refine Wp.exit ?_
        exact Joined0.mk [] [] h (LS.to.mk (.b rfl rfl (.b rfl rfl .n)) .n rfl)
theorem ref11_ShortestEdge_ok {vertices : List Vec} {r : Int} (h : ref11_ShortestEdge vertices = some r) : FnR Tryz.prog 105 [((slAV 2 Vec.av) vertices)] (iAV r) := by
  refine FnR.intro' (fn := Tryz.f105) (N := 38) Tryz.func105 rfl rfl (Nat.le_of_ble_eq_true rfl) [6, 10, 15, 18, 23] ?_
  refine Wp.seq ?_
  refine Wp.region ?_
  refine GoT.q rfl (QEx.as (iAV 0) (QEx.assign rfl .con)) rfl (lt_b rfl) ?_
  refine GoT.nil ?_
  refine Wp.seq ?_
  refine bind_e h fun r1 hr1 h => ?_
  refine Wp.seq ?_
  refine Wp.region ?_
  refine GoT.q rfl (QEx.move rfl (.tmp rfl)) rfl (lt_b rfl) ?_
  refine GoT.q rfl (QEx.cal0 (r := (boolAV r1)) [((slAV 2 Vec.av) vertices)] rfl Tryz.call104 (.cons (.tmp rfl) .nil) (ref11_IsConvex_ok hr1) rfl rfl) rfl (lt_b rfl) ?_
  refine GoT.q rfl (QEx.notK rfl (.tmp rfl)) rfl (lt_b rfl) ?_
  refine GoT.nil ?_
  refine Wp.condS h rfl (fun h => ?_) (fun h => ?_)
  · refine Wp.seq ?_
    refine Wp.region ?_
    refine GoT.q rfl (QEx.as (iAV 0) (QEx.assign rfl .con)) rfl (lt_b rfl) ?_
    refine GoT.nil ?_
    refine Wp.ret ?_
    cases h
    exact LeafQ.ret [] (by decide) (.cons (.tmp rfl) .nil) rfl
  · refine Wp.skip ?_
    refine Wp.seq ?_
    refine Wp.region ?_
    refine GoT.q rfl (QEx.as (iAV (-1)) (QEx.assign rfl .con)) rfl (lt_b rfl) ?_
    refine GoT.nil ?_
    refine Wp.join1 (fun v2 => ⟨[(3, (iAV v2))], [], [6, 10, 15, 18, 23]⟩) (fun v2 => ref11_ShortestEdge_j3 v2 = some r) ?_ ?_
    · intro v2 h
      refine Wp.seq ?_
      refine Wp.region ?_
      refine GoT.q rfl (QEx.move rfl (.tmp rfl)) rfl (lt_b rfl) ?_
      refine GoT.q rfl (QEx.assign rfl (.tmp rfl)) rfl (lt_b rfl) ?_
      refine GoT.nil ?_
      refine Wp.ret ?_
      cases h
      exact LeafQ.ret [] (by decide) (.cons (.tmp rfl) .nil) rfl
    · refine Wp.seq ?_
      refine Wp.region ?_
      refine GoT.q rfl (QEx.as (iAV 0) (QEx.assign rfl .con)) rfl (lt_b rfl) ?_
      refine GoT.nil ?_
      refine Wp.block ?_
      refine Wp.loop2 (fun v3 v4 => ⟨[(0, ((slAV 2 Vec.av) vertices)), (3, (iAV v3)), (4, (iAV v4))], [], [6, 10, 15, 18, 23]⟩) (fun n v3 v4 => ref11_ShortestEdge_l2 vertices ref11_ShortestEdge_j3 n v3 v4 = some r) fuel (-1) 0 [] [] h (LS.to.mk (.b rfl rfl (.b rfl rfl (.b rfl rfl .n))) .n rfl) ?_
      rintro (_ | n2) v3 v4 h
      · exact none_e h
      rw [ref11_ShortestEdge_l2] at h
      refine Wp.seq ?_
      refine Wp.seq ?_
      refine Wp.region ?_
      refine GoT.q rfl (QEx.move rfl (.tmp rfl)) rfl (lt_b rfl) ?_
      refine GoT.q rfl (QEx.move rfl (.tmp rfl)) rfl (lt_b rfl) ?_
      refine GoT.q rfl (QEx.lenL rfl ⟨_, Tryz.underlying40⟩ (.tmp rfl)) rfl (lt_b rfl) ?_
      refine GoT.q rfl (QEx.lssK rfl (.tmp rfl) (.tmp rfl)) rfl (lt_b rfl) ?_
      refine GoT.nil ?_
      refine Wp.condS h rfl (fun h => ?_) (fun h => ?_)
      · refine Wp.skip ?_
        refine Wp.join1 (fun v5 => ⟨[(0, ((slAV 2 Vec.av) vertices)), (3, (iAV v5)), (4, (iAV v4))], [], [6, 10, 15, 18, 23]⟩) (fun v5 => (ref11_ShortestEdge_j1 v4 (ref11_ShortestEdge_l2 vertices ref11_ShortestEdge_j3 n2)) v5 = some r) ?_ ?_
        · intro v5 h
          refine let_e h fun x11 hx11 h => ?_
          refine Wp.region ?_
          refine GoT.q rfl (QEx.move rfl (.tmp rfl)) rfl (lt_b rfl) ?_
          refine GoT.q rfl (QEx.addK rfl (.tmp rfl) .con) rfl (lt_b rfl) ?_
          refine GoT.q rfl (QEx.eq (QEx.assign rfl (.tmp rfl)) (congrArg iAV hx11)) rfl (lt_b rfl) ?_
          refine GoT.nil ?_
          exact Round2.mk v5 x11 [] [] h (LS.to.mk (.b rfl rfl (.b rfl rfl (.b rfl rfl .n))) .n rfl)
        · refine Wp.block ?_
          refine chk_e h fun c6 h => ?_
          refine chk_e h fun c7 h => ?_
          refine chk_e h fun c8 h => ?_
          refine let_e h fun r9 hr9 h => ?_
          refine bind_e h fun r10 hr10 h => ?_
          refine Wp.seq ?_
          refine Wp.drawn2 (n0 := 15) [6, 10, 15, 18, 23] mixed ?_
          refine GoD.q rfl (QEx.move rfl (.tmp rfl)) rfl (lt_b rfl) ?_
          refine GoD.q rfl (QEx.move rfl (.tmp rfl)) rfl (lt_b rfl) ?_
          refine GoD.q rfl (QEx.addK rfl (.tmp rfl) .con) rfl (lt_b rfl) ?_
          refine GoD.q rfl (QEx.move rfl (.tmp rfl)) rfl (lt_b rfl) ?_
          refine GoD.q rfl (QEx.lenL rfl ⟨_, Tryz.underlying40⟩ (.tmp rfl)) rfl (lt_b rfl) ?_
          refine GoD.q rfl (QEx.remK rfl (.tmp rfl) (.tmp rfl) c6) rfl (lt_b rfl) ?_
          refine GoD.q rfl (QEx.as (.cptr (Vec.cells (ix vertices (Int.tmod (w64 (v4 + 1)) ((vertices).length : Int))))) (QEx.idxL (E := Vec.av) rfl et40 (.tmp rfl) (.tmp rfl) c7)) rfl (lt_b rfl) ?_
          refine GoD.q rfl (QEx.ldC (x := (Vec.av (ix vertices (Int.tmod (w64 (v4 + 1)) ((vertices).length : Int))))) rfl ag24 ts24 (.tmp rfl) (.inl ⟨rfl, rfl, rfl⟩)) rfl (lt_b rfl) ?_
          refine GoD.q rfl (QEx.move rfl (.tmp rfl)) rfl (lt_b rfl) ?_
          refine GoD.q rfl (QEx.move rfl (.tmp rfl)) rfl (lt_b rfl) ?_
          refine GoD.q rfl (QEx.as (.cptr (Vec.cells (ix vertices v4))) (QEx.idxL (E := Vec.av) rfl et40 (.tmp rfl) (.tmp rfl) c8)) rfl (lt_b rfl) ?_
          refine GoD.q rfl (QEx.ldC (x := (Vec.av (ix vertices v4))) rfl ag24 ts24 (.tmp rfl) (.inl ⟨rfl, rfl, rfl⟩)) rfl (lt_b rfl) ?_
          refine GoD.q rfl (QEx.cal0 (r := (Vec.av r9)) [(Vec.av (ix vertices (Int.tmod (w64 (v4 + 1)) ((vertices).length : Int)))), (Vec.av (ix vertices v4))] rfl Tryz.call26 (.cons (.tmp rfl) (.cons (.tmp rfl) .nil)) (ref03_Sub_ok hr9) rfl rfl) rfl (lt_b rfl) ?_
          refine GoD.q rfl (QEx.cal0 (r := (iAV r10)) [(Vec.av r9)] rfl Tryz.call84 (.cons (.tmp rfl) .nil) (ref03_Length_ok hr10) rfl rfl) rfl (lt_b rfl) ?_
          refine GoD.q rfl (QEx.assign rfl (.tmp rfl)) rfl (lt_b rfl) ?_
          refine GoD.nil ⟨by kernel_rfl, by kernel_rfl, by kernel_rfl, by kernel_rfl, by kernel_rfl, ?_⟩
          refine GoT.nil ?_
          refine Wp.seq ?_
          refine Wp.region ?_
          refine GoT.q rfl (QEx.move rfl (.tmp rfl)) rfl (lt_b rfl) ?_
          refine GoT.q rfl (QEx.lssK rfl (.tmp rfl) .con) rfl (lt_b rfl) ?_
          refine GoT.q rfl (QEx.move rfl (.tmp rfl)) rfl (lt_b rfl) ?_
          refine GoT.g rfl rfl rfl (fun hg => QEx.move rfl (.tmp rfl)) rfl (lt_b rfl) ?_
          refine GoT.g rfl rfl rfl (fun hg => QEx.move rfl (.tmp rfl)) rfl (lt_b rfl) ?_
          refine GoT.g rfl rfl rfl (fun hg => QEx.lssK rfl (.opt (.tmp rfl) hg) (.opt (.tmp rfl) hg)) rfl (lt_b rfl) ?_
          refine GoT.q rfl (QEx.pickK rfl (.tmp rfl) (fun hp => .con) (fun hp => (.opt (.tmp rfl) (beq_f hp)))) rfl (lt_b rfl) ?_
          refine GoT.nil ?_
          refine Wp.condS h rfl (fun h => ?_) (fun h => ?_)
          · refine Wp.region ?_
            refine GoT.q rfl (QEx.move rfl (.tmp rfl)) rfl (lt_b rfl) ?_
            refine GoT.q rfl (QEx.assign rfl (.tmp rfl)) rfl (lt_b rfl) ?_
            refine GoT.nil ?_
            exact Joined1.mk r10 [] [] h (LS.to.mk (.b rfl rfl (.b rfl rfl (.b rfl rfl .n))) .n rfl)
          · refine Wp.skip ?_
            exact Joined1.mk v3 [] [] h (LS.to.mk (.b rfl rfl (.b rfl rfl (.b rfl rfl .n))) .n rfl)
      · refine Wp.exit ?_
        exact Joined1.mk v3 [] [] h (LS.to.mk (.b rfl rfl .n) .n rfl)
theorem ref01_RoundDiv_ok {n_0 : Int} {d : Int} {r : Int} (h : ref01_RoundDiv n_0 d = some r) : FnR Tryz.prog 44 [(iAV n_0), (iAV d)] (iAV r) := by
  refine FnR.intro' (fn := Tryz.f44) (N := 43) Tryz.func44 rfl rfl (Nat.le_of_ble_eq_true rfl) [] ?_
  refine Wp.seq ?_
  refine Wp.region ?_
  refine GoT.q rfl (QEx.as (iAV 0) (QEx.assign rfl .con)) rfl (lt_b rfl) ?_
  refine GoT.nil ?_
  refine Wp.seq ?_
  refine let_e h fun r1 hr1 h => ?_
  refine let_e h fun r2 hr2 h => ?_
  refine Wp.seq ?_
  refine Wp.region ?_
  refine GoT.q rfl (QEx.move rfl (.tmp rfl)) rfl (lt_b rfl) ?_
  refine GoT.q rfl (QEx.lssK rfl (.tmp rfl) .con) rfl (lt_b rfl) ?_
  refine GoT.q rfl (QEx.move rfl (.tmp rfl)) rfl (lt_b rfl) ?_
  refine GoT.g rfl rfl rfl (fun hg => QEx.move rfl (.tmp rfl)) rfl (lt_b rfl) ?_
  refine GoT.g rfl rfl rfl (fun hg => QEx.cal0 (r := (boolAV r1)) [(iAV d)] rfl Tryz.call58 (.cons (.opt (.tmp rfl) hg) .nil) (ref01_outOfRange_ok hr1) rfl rfl) rfl (lt_b rfl) ?_
  refine GoT.q rfl (QEx.pickK rfl (.tmp rfl) (fun hp => .con) (fun hp => (.opt (.tmp rfl) (beq_f hp)))) rfl (lt_b rfl) ?_
  refine GoT.q rfl (QEx.move rfl (.tmp rfl)) rfl (lt_b rfl) ?_
  refine GoT.g rfl rfl rfl (fun hg => QEx.move rfl (.tmp rfl)) rfl (lt_b rfl) ?_
  refine GoT.g rfl rfl rfl (fun hg => QEx.cal0 (r := (boolAV r2)) [(iAV n_0)] rfl Tryz.call58 (.cons (.opt (.tmp rfl) hg) .nil) (ref01_outOfRange_ok hr2) rfl rfl) rfl (lt_b rfl) ?_
  refine GoT.q rfl (QEx.pickK rfl (.tmp rfl) (fun hp => .con) (fun hp => (.opt (.tmp rfl) (beq_f hp)))) rfl (lt_b rfl) ?_
  refine GoT.nil ?_
  refine Wp.condS h rfl (fun h => ?_) (fun h => ?_)
  · refine Wp.seq ?_
    refine Wp.region ?_
    refine GoT.q rfl (QEx.as (iAV 0) (QEx.assign rfl .con)) rfl (lt_b rfl) ?_
    refine GoT.nil ?_
    refine Wp.ret ?_
    cases h
    exact LeafQ.ret [] (by decide) (.cons (.tmp rfl) .nil) rfl
  · refine Wp.skip ?_
    refine Wp.seq ?_
    refine Wp.region ?_
    refine GoT.q rfl (QEx.move rfl (.tmp rfl)) rfl (lt_b rfl) ?_
    refine GoT.q rfl (QEx.assign rfl (.tmp rfl)) rfl (lt_b rfl) ?_
    refine GoT.nil ?_
    refine Wp.join1 (fun v3 => ⟨[(0, (iAV n_0)), (1, (iAV d)), (5, (iAV v3))], [], []⟩) (fun v3 => (ref01_RoundDiv_j2 n_0 d) v3 = some r) ?_ ?_
    · intro v3 h
      refine chk_e h fun c5 h => ?_
      refine let_e h fun x6 hx6 h => ?_
      refine Wp.seq ?_
      refine Wp.region ?_
      refine GoT.q rfl (QEx.move rfl (.tmp rfl)) rfl (lt_b rfl) ?_
      refine GoT.q rfl (QEx.move rfl (.tmp rfl)) rfl (lt_b rfl) ?_
      refine GoT.q rfl (QEx.quoK rfl (.tmp rfl) (.tmp rfl) c5) rfl (lt_b rfl) ?_
      refine GoT.q rfl (QEx.eq (QEx.assign rfl (.tmp rfl)) (congrArg iAV hx6)) rfl (lt_b rfl) ?_
      refine GoT.nil ?_
      refine let_e h fun x7 hx7 h => ?_
      refine Wp.seq ?_
      refine Wp.region ?_
      refine GoT.q rfl (QEx.move rfl (.tmp rfl)) rfl (lt_b rfl) ?_
      refine GoT.q rfl (QEx.move rfl (.tmp rfl)) rfl (lt_b rfl) ?_
      refine GoT.q rfl (QEx.move rfl (.tmp rfl)) rfl (lt_b rfl) ?_
      refine GoT.q rfl (QEx.mulK rfl (.tmp rfl) (.tmp rfl)) rfl (lt_b rfl) ?_
      refine GoT.q rfl (QEx.subK rfl (.tmp rfl) (.tmp rfl)) rfl (lt_b rfl) ?_
      refine GoT.q rfl (QEx.eq (QEx.assign rfl (.tmp rfl)) (congrArg iAV hx7)) rfl (lt_b rfl) ?_
      refine GoT.nil ?_
      refine Wp.join1 (fun v8 => ⟨[(0, (iAV n_0)), (6, (iAV v8))], [], []⟩) (fun v8 => (ref01_RoundDiv_j1 n_0) v8 = some r) ?_ ?_
      · intro v8 h
        refine Wp.seq ?_
        refine Wp.seq ?_
        refine Wp.region ?_
        refine GoT.q rfl (QEx.move rfl (.tmp rfl)) rfl (lt_b rfl) ?_
        refine GoT.q rfl (QEx.lssK rfl (.tmp rfl) .con) rfl (lt_b rfl) ?_
        refine GoT.nil ?_
        refine Wp.condS h rfl (fun h => ?_) (fun h => ?_)
        · refine let_e h fun x10 hx10 h => ?_
          refine Wp.seq ?_
          refine Wp.region ?_
          refine GoT.q rfl (QEx.move rfl (.tmp rfl)) rfl (lt_b rfl) ?_
          refine GoT.q rfl (QEx.negK rfl (.tmp rfl)) rfl (lt_b rfl) ?_
          refine GoT.q rfl (QEx.eq (QEx.assign rfl (.tmp rfl)) (congrArg iAV hx10)) rfl (lt_b rfl) ?_
          refine GoT.nil ?_
          refine Wp.ret ?_
          cases h
          exact LeafQ.ret [] (by decide) (.cons (.tmp rfl) .nil) rfl
        · refine Wp.skip ?_
          refine Wp.seq ?_
          refine Wp.region ?_
          refine GoT.q rfl (QEx.move rfl (.tmp rfl)) rfl (lt_b rfl) ?_
          refine GoT.q rfl (QEx.assign rfl (.tmp rfl)) rfl (lt_b rfl) ?_
          refine GoT.nil ?_
          refine Wp.ret ?_
          cases h
          exact LeafQ.ret [] (by decide) (.cons (.tmp rfl) .nil) rfl
      · refine Wp.seq ?_
        refine Wp.region ?_
        refine GoT.q rfl (QEx.move rfl (.tmp rfl)) rfl (lt_b rfl) ?_
        refine GoT.q rfl (QEx.move rfl (.tmp rfl)) rfl (lt_b rfl) ?_
        refine GoT.q rfl (QEx.move rfl (.tmp rfl)) rfl (lt_b rfl) ?_
        refine GoT.q rfl (QEx.subK rfl (.tmp rfl) (.tmp rfl)) rfl (lt_b rfl) ?_
        refine GoT.q rfl (QEx.geqK rfl (.tmp rfl) (.tmp rfl)) rfl (lt_b rfl) ?_
        refine GoT.nil ?_
        refine Wp.condS h rfl (fun h => ?_) (fun h => ?_)
        · refine let_e h fun x9 hx9 h => ?_
          refine Wp.region ?_
          refine GoT.q rfl (QEx.move rfl (.tmp rfl)) rfl (lt_b rfl) ?_
          refine GoT.q rfl (QEx.addK rfl (.tmp rfl) .con) rfl (lt_b rfl) ?_
          refine GoT.q rfl (QEx.eq (QEx.assign rfl (.tmp rfl)) (congrArg iAV hx9)) rfl (lt_b rfl) ?_
          refine GoT.nil ?_
          exact Joined1.mk x9 [] [] h (LS.to.mk (.b rfl rfl (.b rfl rfl .n)) .n rfl)
        · refine Wp.skip ?_
          exact Joined1.mk x6 [] [] h (LS.to.mk (.b rfl rfl (.b rfl rfl .n)) .n rfl)
    · refine Wp.seq ?_
      refine Wp.region ?_
      refine GoT.q rfl (QEx.move rfl (.tmp rfl)) rfl (lt_b rfl) ?_
      refine GoT.q rfl (QEx.lssK rfl (.tmp rfl) .con) rfl (lt_b rfl) ?_
      refine GoT.nil ?_
      refine Wp.condS h rfl (fun h => ?_) (fun h => ?_)
      · refine let_e h fun x4 hx4 h => ?_
        refine Wp.region ?_
        refine GoT.q rfl (QEx.move rfl (.tmp rfl)) rfl (lt_b rfl) ?_
        refine GoT.q rfl (QEx.negK rfl (.tmp rfl)) rfl (lt_b rfl) ?_
        refine GoT.q rfl (QEx.eq (QEx.assign rfl (.tmp rfl)) (congrArg iAV hx4)) rfl (lt_b rfl) ?_
        refine GoT.nil ?_
        exact Joined1.mk x4 [] [] h (LS.to.mk (.b rfl rfl (.b rfl rfl (.b rfl rfl .n))) .n rfl)
      · refine Wp.skip ?_
        exact Joined1.mk n_0 [] [] h (LS.to.mk (.b rfl rfl (.b rfl rfl (.b rfl rfl .n))) .n rfl)
theorem ref11_cross_ok {v_0 : List Vec} {i : Int} {r : Int} (h : ref11_cross v_0 i = some r) : FnR Tryz.prog 107 [((slAV 2 Vec.av) v_0), (iAV i)] (iAV r) := by
  refine FnR.intro' (fn := Tryz.f107) (N := 63) Tryz.func107 rfl rfl (Nat.le_of_ble_eq_true rfl) [5, 6, 7, 12, 17, 22, 28, 34, 39, 45] ?_
  refine Wp.seq ?_
  refine Wp.region ?_
  refine GoT.q rfl (QEx.as (iAV 0) (QEx.assign rfl .con)) rfl (lt_b rfl) ?_
  refine GoT.nil ?_
  refine chk_e h fun c1 h => ?_
  refine chk_e h fun c2 h => ?_
  refine chk_e h fun c3 h => ?_
  refine chk_e h fun c4 h => ?_
  refine let_e h fun x5 hx5 h => ?_
  refine Wp.seq ?_
  refine Wp.drawn2 (n0 := 23) [6, 7, 12, 17, 22, 28, 34, 39, 45] mixed ?_
  refine GoD.q rfl (QEx.move rfl (.tmp rfl)) rfl (lt_b rfl) ?_
  refine GoD.q rfl (QEx.move rfl (.tmp rfl)) rfl (lt_b rfl) ?_
  refine GoD.q rfl (QEx.as (.cptr (Vec.cells (ix v_0 i))) (QEx.idxL (E := Vec.av) rfl et40 (.tmp rfl) (.tmp rfl) c1)) rfl (lt_b rfl) ?_
  refine GoD.q rfl (QEx.fldC [(iAV ((ix v_0 i).X))] rfl Tryz.underlying24 rfl ts3 rfl (.tmp rfl) rfl) rfl (lt_b rfl) ?_
  refine GoD.q rfl (QEx.ldC (x := (iAV ((ix v_0 i).X))) rfl ag3 ts3 (.tmp rfl) (.inr ⟨rfl, rfl⟩)) rfl (lt_b rfl) ?_
  refine GoD.q rfl (QEx.move rfl (.tmp rfl)) rfl (lt_b rfl) ?_
  refine GoD.q rfl (QEx.as (.cptr (Vec.cells (ix v_0 0))) (QEx.idxL (E := Vec.av) rfl et40 (.tmp rfl) .con c2)) rfl (lt_b rfl) ?_
  refine GoD.q rfl (QEx.fldC [(iAV ((ix v_0 0).X))] rfl Tryz.underlying24 rfl ts3 rfl (.tmp rfl) rfl) rfl (lt_b rfl) ?_
  refine GoD.q rfl (QEx.ldC (x := (iAV ((ix v_0 0).X))) rfl ag3 ts3 (.tmp rfl) (.inr ⟨rfl, rfl⟩)) rfl (lt_b rfl) ?_
  refine GoD.q rfl (QEx.subK rfl (.tmp rfl) (.tmp rfl)) rfl (lt_b rfl) ?_
  refine GoD.q rfl (QEx.move rfl (.tmp rfl)) rfl (lt_b rfl) ?_
  refine GoD.q rfl (QEx.move rfl (.tmp rfl)) rfl (lt_b rfl) ?_
  refine GoD.q rfl (QEx.as (.cptr (Vec.cells (ix v_0 i))) (QEx.idxL (E := Vec.av) rfl et40 (.tmp rfl) (.tmp rfl) c3)) rfl (lt_b rfl) ?_
  refine GoD.q rfl (QEx.fldC [(iAV ((ix v_0 i).Y))] rfl Tryz.underlying24 rfl ts3 rfl (.tmp rfl) rfl) rfl (lt_b rfl) ?_
  refine GoD.q rfl (QEx.ldC (x := (iAV ((ix v_0 i).Y))) rfl ag3 ts3 (.tmp rfl) (.inr ⟨rfl, rfl⟩)) rfl (lt_b rfl) ?_
  refine GoD.q rfl (QEx.move rfl (.tmp rfl)) rfl (lt_b rfl) ?_
  refine GoD.q rfl (QEx.as (.cptr (Vec.cells (ix v_0 0))) (QEx.idxL (E := Vec.av) rfl et40 (.tmp rfl) .con c4)) rfl (lt_b rfl) ?_
  refine GoD.q rfl (QEx.fldC [(iAV ((ix v_0 0).Y))] rfl Tryz.underlying24 rfl ts3 rfl (.tmp rfl) rfl) rfl (lt_b rfl) ?_
  refine GoD.q rfl (QEx.ldC (x := (iAV ((ix v_0 0).Y))) rfl ag3 ts3 (.tmp rfl) (.inr ⟨rfl, rfl⟩)) rfl (lt_b rfl) ?_
  refine GoD.q rfl (QEx.subK rfl (.tmp rfl) (.tmp rfl)) rfl (lt_b rfl) ?_
  refine GoD.q rfl (QEx.as (Vec.av (⟨(w64 (((ix v_0 i).X) - ((ix v_0 0).X))), (w64 (((ix v_0 i).Y) - ((ix v_0 0).Y)))⟩ : Vec)) (QEx.buildZ rfl Tryz.underlying24 zt24 (by kernel_rfl) (.cons rfl (.tmp rfl) rfl rfl (le_b rfl) (.cons rfl (.tmp rfl) rfl rfl (le_b rfl) .nil)))) rfl (lt_b rfl) ?_
  refine GoD.al rfl rfl zt24 rfl (lt_b rfl) ?_
  refine GoD.s rfl (Z := (Vec.cells x5)) rfl rfl ts24 (.tmp rfl) rfl (.tmp rfl) rfl rfl (le_b rfl) (congrArg (fun (x : Vec) => (Vec.cells x)) hx5) ?_
  refine GoD.nil ⟨by kernel_rfl, by kernel_rfl, by kernel_rfl, by kernel_rfl, by kernel_rfl, ?_⟩
  refine GoT.nil ?_
  refine chk_e h fun c6 h => ?_
  refine chk_e h fun c7 h => ?_
  refine chk_e h fun c8 h => ?_
  refine chk_e h fun c9 h => ?_
  refine let_e h fun x10 hx10 h => ?_
  refine Wp.seq ?_
  refine Wp.drawn2 (n0 := 25) [7, 12, 17, 22, 28, 34, 39, 45] mixed ?_
  refine GoD.q rfl (QEx.move rfl (.tmp rfl)) rfl (lt_b rfl) ?_
  refine GoD.q rfl (QEx.move rfl (.tmp rfl)) rfl (lt_b rfl) ?_
  refine GoD.q rfl (QEx.addK rfl (.tmp rfl) .con) rfl (lt_b rfl) ?_
  refine GoD.q rfl (QEx.as (.cptr (Vec.cells (ix v_0 (w64 (i + 1))))) (QEx.idxL (E := Vec.av) rfl et40 (.tmp rfl) (.tmp rfl) c6)) rfl (lt_b rfl) ?_
  refine GoD.q rfl (QEx.fldC [(iAV ((ix v_0 (w64 (i + 1))).X))] rfl Tryz.underlying24 rfl ts3 rfl (.tmp rfl) rfl) rfl (lt_b rfl) ?_
  refine GoD.q rfl (QEx.ldC (x := (iAV ((ix v_0 (w64 (i + 1))).X))) rfl ag3 ts3 (.tmp rfl) (.inr ⟨rfl, rfl⟩)) rfl (lt_b rfl) ?_
  refine GoD.q rfl (QEx.move rfl (.tmp rfl)) rfl (lt_b rfl) ?_
  refine GoD.q rfl (QEx.as (.cptr (Vec.cells (ix v_0 0))) (QEx.idxL (E := Vec.av) rfl et40 (.tmp rfl) .con c7)) rfl (lt_b rfl) ?_
  refine GoD.q rfl (QEx.fldC [(iAV ((ix v_0 0).X))] rfl Tryz.underlying24 rfl ts3 rfl (.tmp rfl) rfl) rfl (lt_b rfl) ?_
  refine GoD.q rfl (QEx.ldC (x := (iAV ((ix v_0 0).X))) rfl ag3 ts3 (.tmp rfl) (.inr ⟨rfl, rfl⟩)) rfl (lt_b rfl) ?_
  refine GoD.q rfl (QEx.subK rfl (.tmp rfl) (.tmp rfl)) rfl (lt_b rfl) ?_
  refine GoD.q rfl (QEx.move rfl (.tmp rfl)) rfl (lt_b rfl) ?_
  refine GoD.q rfl (QEx.move rfl (.tmp rfl)) rfl (lt_b rfl) ?_
  refine GoD.q rfl (QEx.addK rfl (.tmp rfl) .con) rfl (lt_b rfl) ?_
  refine GoD.q rfl (QEx.as (.cptr (Vec.cells (ix v_0 (w64 (i + 1))))) (QEx.idxL (E := Vec.av) rfl et40 (.tmp rfl) (.tmp rfl) c8)) rfl (lt_b rfl) ?_
  refine GoD.q rfl (QEx.fldC [(iAV ((ix v_0 (w64 (i + 1))).Y))] rfl Tryz.underlying24 rfl ts3 rfl (.tmp rfl) rfl) rfl (lt_b rfl) ?_
  refine GoD.q rfl (QEx.ldC (x := (iAV ((ix v_0 (w64 (i + 1))).Y))) rfl ag3 ts3 (.tmp rfl) (.inr ⟨rfl, rfl⟩)) rfl (lt_b rfl) ?_
  refine GoD.q rfl (QEx.move rfl (.tmp rfl)) rfl (lt_b rfl) ?_
  refine GoD.q rfl (QEx.as (.cptr (Vec.cells (ix v_0 0))) (QEx.idxL (E := Vec.av) rfl et40 (.tmp rfl) .con c9)) rfl (lt_b rfl) ?_
  refine GoD.q rfl (QEx.fldC [(iAV ((ix v_0 0).Y))] rfl Tryz.underlying24 rfl ts3 rfl (.tmp rfl) rfl) rfl (lt_b rfl) ?_
  refine GoD.q rfl (QEx.ldC (x := (iAV ((ix v_0 0).Y))) rfl ag3 ts3 (.tmp rfl) (.inr ⟨rfl, rfl⟩)) rfl (lt_b rfl) ?_
  refine GoD.q rfl (QEx.subK rfl (.tmp rfl) (.tmp rfl)) rfl (lt_b rfl) ?_
  refine GoD.q rfl (QEx.as (Vec.av (⟨(w64 (((ix v_0 (w64 (i + 1))).X) - ((ix v_0 0).X))), (w64 (((ix v_0 (w64 (i + 1))).Y) - ((ix v_0 0).Y)))⟩ : Vec)) (QEx.buildZ rfl Tryz.underlying24 zt24 (by kernel_rfl) (.cons rfl (.tmp rfl) rfl rfl (le_b rfl) (.cons rfl (.tmp rfl) rfl rfl (le_b rfl) .nil)))) rfl (lt_b rfl) ?_
  refine GoD.al rfl rfl zt24 rfl (lt_b rfl) ?_
  refine GoD.s rfl (Z := (Vec.cells x10)) rfl rfl ts24 (.tmp rfl) rfl (.tmp rfl) rfl rfl (le_b rfl) (congrArg (fun (x : Vec) => (Vec.cells x)) hx10) ?_
  refine GoD.nil ⟨by kernel_rfl, by kernel_rfl, by kernel_rfl, by kernel_rfl, by kernel_rfl, ?_⟩
  refine GoT.nil ?_
  refine bind_e h fun r11 hr11 h => ?_
  refine Wp.seq ?_
  refine Wp.region ?_
  refine GoT.q rfl (QEx.fldP 0 rfl Tryz.underlying24 rfl ts3 rfl (.tmp rfl) rfl) rfl (lt_b rfl) ?_
  refine GoT.qr rfl rfl (QEx.ldP1 (Vec.cells x5) (iAV x5.X) rfl ag3 (.tmp rfl) rfl) rfl (lt_b rfl) ?_
  refine GoT.q rfl (QEx.fldP 1 rfl Tryz.underlying24 rfl ts3 rfl (.tmp rfl) rfl) rfl (lt_b rfl) ?_
  refine GoT.qr rfl rfl (QEx.ldP1 (Vec.cells x10) (iAV x10.Y) rfl ag3 (.tmp rfl) rfl) rfl (lt_b rfl) ?_
  refine GoT.q rfl (QEx.mulK rfl (.tmp rfl) (.tmp rfl)) rfl (lt_b rfl) ?_
  refine GoT.q rfl (QEx.fldP 1 rfl Tryz.underlying24 rfl ts3 rfl (.tmp rfl) rfl) rfl (lt_b rfl) ?_
  refine GoT.qr rfl rfl (QEx.ldP1 (Vec.cells x5) (iAV x5.Y) rfl ag3 (.tmp rfl) rfl) rfl (lt_b rfl) ?_
  refine GoT.q rfl (QEx.fldP 0 rfl Tryz.underlying24 rfl ts3 rfl (.tmp rfl) rfl) rfl (lt_b rfl) ?_
  refine GoT.qr rfl rfl (QEx.ldP1 (Vec.cells x10) (iAV x10.X) rfl ag3 (.tmp rfl) rfl) rfl (lt_b rfl) ?_
  refine GoT.q rfl (QEx.mulK rfl (.tmp rfl) (.tmp rfl)) rfl (lt_b rfl) ?_
  refine GoT.q rfl (QEx.subK rfl (.tmp rfl) (.tmp rfl)) rfl (lt_b rfl) ?_
  refine GoT.q rfl (QEx.cal0 (r := (iAV r11)) [(iAV (w64 ((w64 (x5.X * x10.Y)) - (w64 (x5.Y * x10.X))))), (iAV 65536)] rfl Tryz.call44 (.cons (.tmp rfl) (.cons .con .nil)) (ref01_RoundDiv_ok hr11) rfl rfl) rfl (lt_b rfl) ?_
  refine GoT.q rfl (QEx.assign rfl (.tmp rfl)) rfl (lt_b rfl) ?_
  refine GoT.nil ?_
  refine Wp.ret ?_
  cases h
  exact LeafQ.ret [] (by decide) (.cons (.tmp rfl) .nil) rfl
theorem ref11_Area_ok {vertices : List Vec} {r : Int} (h : ref11_Area vertices = some r) : FnR Tryz.prog 86 [((slAV 2 Vec.av) vertices)] (iAV r) := by
  refine FnR.intro' (fn := Tryz.f86) (N := 22) Tryz.func86 rfl rfl (Nat.le_of_ble_eq_true rfl) [5, 10, 16] ?_
  refine Wp.seq ?_
  refine Wp.region ?_
  refine GoT.q rfl (QEx.as (iAV 0) (QEx.assign rfl .con)) rfl (lt_b rfl) ?_
  refine GoT.nil ?_
  refine Wp.seq ?_
  refine bind_e h fun r1 hr1 h => ?_
  refine Wp.seq ?_
  refine Wp.region ?_
  refine GoT.q rfl (QEx.move rfl (.tmp rfl)) rfl (lt_b rfl) ?_
  refine GoT.q rfl (QEx.cal0 (r := (boolAV r1)) [((slAV 2 Vec.av) vertices)] rfl Tryz.call104 (.cons (.tmp rfl) .nil) (ref11_IsConvex_ok hr1) rfl rfl) rfl (lt_b rfl) ?_
  refine GoT.q rfl (QEx.notK rfl (.tmp rfl)) rfl (lt_b rfl) ?_
  refine GoT.nil ?_
  refine Wp.condS h rfl (fun h => ?_) (fun h => ?_)
  · refine Wp.seq ?_
    refine Wp.region ?_
    refine GoT.q rfl (QEx.as (iAV 0) (QEx.assign rfl .con)) rfl (lt_b rfl) ?_
    refine GoT.nil ?_
    refine Wp.ret ?_
    cases h
    exact LeafQ.ret [] (by decide) (.cons (.tmp rfl) .nil) rfl
  · refine Wp.skip ?_
    refine Wp.seq ?_
    refine Wp.region ?_
    refine GoT.q rfl (QEx.as (iAV 0) (QEx.assign rfl .con)) rfl (lt_b rfl) ?_
    refine GoT.nil ?_
    refine Wp.join1 (fun v2 => ⟨[(3, (iAV v2))], [], [5, 10, 16]⟩) (fun v2 => ref11_Area_j2 v2 = some r) ?_ ?_
    · intro v2 h
      refine bind_e h fun r8 hr8 h => ?_
      refine Wp.seq ?_
      refine Wp.region ?_
      refine GoT.q rfl (QEx.move rfl (.tmp rfl)) rfl (lt_b rfl) ?_
      refine GoT.q rfl (QEx.cal0 (r := (iAV r8)) [(iAV v2), (iAV 2)] rfl Tryz.call44 (.cons (.tmp rfl) (.cons .con .nil)) (ref01_RoundDiv_ok hr8) rfl rfl) rfl (lt_b rfl) ?_
      refine GoT.q rfl (QEx.assign rfl (.tmp rfl)) rfl (lt_b rfl) ?_
      refine GoT.nil ?_
      refine Wp.ret ?_
      cases h
      exact LeafQ.ret [] (by decide) (.cons (.tmp rfl) .nil) rfl
    · refine Wp.seq ?_
      refine Wp.region ?_
      refine GoT.q rfl (QEx.as (iAV 1) (QEx.assign rfl .con)) rfl (lt_b rfl) ?_
      refine GoT.nil ?_
      refine Wp.block ?_
      refine Wp.loop2 (fun v3 v4 => ⟨[(0, ((slAV 2 Vec.av) vertices)), (3, (iAV v3)), (4, (iAV v4))], [], [5, 10, 16]⟩) (fun n v3 v4 => ref11_Area_l1 vertices ref11_Area_j2 n v3 v4 = some r) fuel 0 1 [] [] h (LS.to.mk (.b rfl rfl (.b rfl rfl (.b rfl rfl .n))) .n rfl) ?_
      rintro (_ | n2) v3 v4 h
      · exact none_e h
      rw [ref11_Area_l1] at h
      refine Wp.seq ?_
      refine Wp.seq ?_
      refine Wp.region ?_
      refine GoT.q rfl (QEx.move rfl (.tmp rfl)) rfl (lt_b rfl) ?_
      refine GoT.q rfl (QEx.addK rfl (.tmp rfl) .con) rfl (lt_b rfl) ?_
      refine GoT.q rfl (QEx.move rfl (.tmp rfl)) rfl (lt_b rfl) ?_
      refine GoT.q rfl (QEx.lenL rfl ⟨_, Tryz.underlying40⟩ (.tmp rfl)) rfl (lt_b rfl) ?_
      refine GoT.q rfl (QEx.lssK rfl (.tmp rfl) (.tmp rfl)) rfl (lt_b rfl) ?_
      refine GoT.nil ?_
      refine Wp.condS h rfl (fun h => ?_) (fun h => ?_)
      · refine Wp.skip ?_
        refine Wp.seq ?_
        refine Wp.block ?_
        refine bind_e h fun r5 hr5 h => ?_
        refine let_e h fun x6 hx6 h => ?_
        refine Wp.region ?_
        refine GoT.q rfl (QEx.move rfl (.tmp rfl)) rfl (lt_b rfl) ?_
        refine GoT.q rfl (QEx.move rfl (.tmp rfl)) rfl (lt_b rfl) ?_
        refine GoT.q rfl (QEx.move rfl (.tmp rfl)) rfl (lt_b rfl) ?_
        refine GoT.q rfl (QEx.cal0 (r := (iAV r5)) [((slAV 2 Vec.av) vertices), (iAV v4)] rfl Tryz.call107 (.cons (.tmp rfl) (.cons (.tmp rfl) .nil)) (ref11_cross_ok hr5) rfl rfl) rfl (lt_b rfl) ?_
        refine GoT.q rfl (QEx.addK rfl (.tmp rfl) (.tmp rfl)) rfl (lt_b rfl) ?_
        refine GoT.q rfl (QEx.eq (QEx.assign rfl (.tmp rfl)) (congrArg iAV hx6)) rfl (lt_b rfl) ?_
        refine GoT.nil ?_
        refine let_e h fun x7 hx7 h => ?_
        refine Wp.region ?_
        refine GoT.q rfl (QEx.move rfl (.tmp rfl)) rfl (lt_b rfl) ?_
        refine GoT.q rfl (QEx.addK rfl (.tmp rfl) .con) rfl (lt_b rfl) ?_
        refine GoT.q rfl (QEx.eq (QEx.assign rfl (.tmp rfl)) (congrArg iAV hx7)) rfl (lt_b rfl) ?_
        refine GoT.nil ?_
        exact Round2.mk x6 x7 [] [] h (LS.to.mk (.b rfl rfl (.b rfl rfl (.b rfl rfl .n))) .n rfl)
      · refine Wp.exit ?_
        exact Joined1.mk v3 [] [] h (LS.to.mk (.b rfl rfl .n) .n rfl)
theorem ref12_Validate_ok {s : Shape} {r : Int} (h : ref12_Validate s = some r) : FnR Tryz.prog 83 [(Shape.av s)] (iAV r) := by
  refine FnR.intro' (fn := Tryz.f83) (N := 100) Tryz.func83 rfl rfl (Nat.le_of_ble_eq_true rfl) [1] ?_
  refine Wp.seq ?_
  refine Wp.region ?_
  refine GoT.a rfl (AEx.bx (Z := (Shape.cells s)) rfl (.tmp rfl) rfl rfl rfl rfl) rfl (lt_b rfl) ?_
  refine GoT.q rfl (QEx.as (iAV 0) (QEx.assign rfl .con)) rfl (lt_b rfl) ?_
  refine GoT.nil ?_
  refine Wp.seq ?_
  refine Wp.seq ?_
  refine Wp.region ?_
  refine GoT.q rfl (QEx.fldP 0 rfl Tryz.underlying42 rfl ts39 rfl (.tmp rfl) rfl) rfl (lt_b rfl) ?_
  refine GoT.qr rfl rfl (QEx.ldP1 (Shape.cells s) (iAV s.Kind) rfl ag39 (.tmp rfl) rfl) rfl (lt_b rfl) ?_
  refine GoT.q rfl (QEx.lssK rfl (.tmp rfl) .con) rfl (lt_b rfl) ?_
  refine GoT.q rfl (QEx.move rfl (.tmp rfl)) rfl (lt_b rfl) ?_
  refine GoT.g rfl rfl rfl (fun hg => QEx.fldP 0 rfl Tryz.underlying42 rfl ts39 rfl (.tmp rfl) rfl) rfl (lt_b rfl) ?_
  refine GoT.gr rfl rfl rfl rfl (fun hg => QEx.ldP1 (Shape.cells s) (iAV s.Kind) rfl ag39 (.opt (.tmp rfl) hg) rfl) rfl (lt_b rfl) ?_
  refine GoT.g rfl rfl rfl (fun hg => QEx.gtrK rfl (.opt (.tmp rfl) hg) .con) rfl (lt_b rfl) ?_
  refine GoT.q rfl (QEx.pickK rfl (.tmp rfl) (fun hp => .con) (fun hp => (.opt (.tmp rfl) (beq_f hp)))) rfl (lt_b rfl) ?_
  refine GoT.nil ?_
  refine Wp.condS h rfl (fun h => ?_) (fun h => ?_)
  · refine Wp.seq ?_
    refine Wp.region ?_
    refine GoT.q rfl (QEx.as (iAV 10) (QEx.assign rfl .con)) rfl (lt_b rfl) ?_
    refine GoT.nil ?_
    refine Wp.ret ?_
    cases h
    exact LeafQ.ret [] (by decide) (.cons (.tmp rfl) .nil) rfl
  · refine Wp.skip ?_
    refine Wp.seq ?_
    refine let_e h fun r1 hr1 h => ?_
    refine Wp.seq ?_
    refine Wp.region ?_
    refine GoT.qr rfl rfl (QEx.ldP (Shape.cells s) (Shape.av s) rfl ag42 ts42 (.tmp rfl) (le_b rfl) rfl) rfl (lt_b rfl) ?_
    refine GoT.q rfl (QEx.cal0 (r := (boolAV r1)) [(Shape.av s)] rfl Tryz.call102 (.cons (.tmp rfl) .nil) (ref12_countMatches_ok hr1) rfl rfl) rfl (lt_b rfl) ?_
    refine GoT.q rfl (QEx.notK rfl (.tmp rfl)) rfl (lt_b rfl) ?_
    refine GoT.nil ?_
    refine Wp.condS h rfl (fun h => ?_) (fun h => ?_)
    · refine Wp.seq ?_
      refine Wp.region ?_
      refine GoT.q rfl (QEx.as (iAV 11) (QEx.assign rfl .con)) rfl (lt_b rfl) ?_
      refine GoT.nil ?_
      refine Wp.ret ?_
      cases h
      exact LeafQ.ret [] (by decide) (.cons (.tmp rfl) .nil) rfl
    · refine Wp.skip ?_
      refine Wp.join0 (⟨[(1, (.ptr 1 0))], [(1, .cells (Shape.cells s))], []⟩) ((ref12_Validate_j2 s) = some r) ?_ ?_
      · intro h
        refine Wp.seq ?_
        refine Wp.seq ?_
        refine Wp.region ?_
        refine GoT.q rfl (QEx.fldP 0 rfl Tryz.underlying42 rfl ts39 rfl (.tmp rfl) rfl) rfl (lt_b rfl) ?_
        refine GoT.qr rfl rfl (QEx.ldP1 (Shape.cells s) (iAV s.Kind) rfl ag39 (.tmp rfl) rfl) rfl (lt_b rfl) ?_
        refine GoT.q rfl (QEx.eqlK rfl (.tmp rfl) .con) rfl (lt_b rfl) ?_
        refine GoT.q rfl (QEx.move rfl (.tmp rfl)) rfl (lt_b rfl) ?_
        refine GoT.g rfl rfl rfl (fun hg => QEx.fldP 1 rfl Tryz.underlying42 rfl ts3 rfl (.tmp rfl) rfl) rfl (lt_b rfl) ?_
        refine GoT.gr rfl rfl rfl rfl (fun hg => QEx.ldP1 (Shape.cells s) (iAV s.Radius) rfl ag3 (.opt (.tmp rfl) hg) rfl) rfl (lt_b rfl) ?_
        refine GoT.g rfl rfl rfl (fun hg => QEx.neqK rfl (.opt (.tmp rfl) hg) .con) rfl (lt_b rfl) ?_
        refine GoT.q rfl (QEx.pickK rfl (.tmp rfl) (fun hp => (.opt (.tmp rfl) (beq_t hp))) (fun hp => .con)) rfl (lt_b rfl) ?_
        refine GoT.q rfl (QEx.move rfl (.tmp rfl)) rfl (lt_b rfl) ?_
        refine GoT.g rfl rfl rfl (fun hg => QEx.fldP 0 rfl Tryz.underlying42 rfl ts39 rfl (.tmp rfl) rfl) rfl (lt_b rfl) ?_
        refine GoT.gr rfl rfl rfl rfl (fun hg => QEx.ldP1 (Shape.cells s) (iAV s.Kind) rfl ag39 (.opt (.tmp rfl) hg) rfl) rfl (lt_b rfl) ?_
        refine GoT.g rfl rfl rfl (fun hg => QEx.neqK rfl (.opt (.tmp rfl) hg) .con) rfl (lt_b rfl) ?_
        refine GoT.g rfl rfl rfl (fun hg => QEx.move rfl (.opt (.tmp rfl) hg)) rfl (lt_b rfl) ?_
        refine GoT.g2 rfl rfl rfl (fun hg => QEx.fldP 1 rfl Tryz.underlying42 rfl ts3 rfl (.tmp rfl) rfl) rfl (lt_b rfl) ?_
        refine GoT.gr2 rfl rfl rfl rfl (fun hg => QEx.ldP1 (Shape.cells s) (iAV s.Radius) rfl ag3 (.opt (.tmp rfl) hg) rfl) rfl (lt_b rfl) ?_
        refine GoT.g2 rfl rfl rfl (fun hg => QEx.lssK rfl (.opt (.tmp rfl) hg) .con) rfl (lt_b rfl) ?_
        refine GoT.g2 rfl rfl rfl (fun hg => QEx.move rfl (.opt (.tmp rfl) hg)) rfl (lt_b rfl) ?_
        refine GoT.g2 rfl rfl rfl (fun hg => QEx.fldP 1 rfl Tryz.underlying42 rfl ts3 rfl (.tmp rfl) rfl) rfl (lt_b rfl) ?_
        refine GoT.gr2 rfl rfl rfl rfl (fun hg => QEx.ldP1 (Shape.cells s) (iAV s.Radius) rfl ag3 (.opt (.tmp rfl) hg) rfl) rfl (lt_b rfl) ?_
        refine GoT.g2 rfl rfl rfl (fun hg => QEx.gtrK rfl (.opt (.tmp rfl) hg) .con) rfl (lt_b rfl) ?_
        refine GoT.g2 rfl rfl rfl (fun hg => QEx.pickK rfl (.opt (.tmp rfl) hg) (fun hp => .con) (fun hp => (.opt (.tmp rfl) (and_i hg (beq_f hp))))) rfl (lt_b rfl) ?_
        refine GoT.g rfl rfl rfl (fun hg => QEx.pickK rfl (.opt (.tmp rfl) hg) (fun hp => (.opt (.tmp rfl) (and_i hg (beq_t hp)))) (fun hp => .con)) rfl (lt_b rfl) ?_
        refine GoT.q rfl (QEx.pickK rfl (.tmp rfl) (fun hp => .con) (fun hp => (.opt (.tmp rfl) (beq_f hp)))) rfl (lt_b rfl) ?_
        refine GoT.nil ?_
        refine Wp.condS h rfl (fun h => ?_) (fun h => ?_)
        · refine Wp.seq ?_
          refine Wp.region ?_
          refine GoT.q rfl (QEx.as (iAV 6) (QEx.assign rfl .con)) rfl (lt_b rfl) ?_
          refine GoT.nil ?_
          refine Wp.ret ?_
          cases h
          exact LeafQ.ret [] (by decide) (.cons (.tmp rfl) .nil) rfl
        · refine Wp.skip ?_
          refine Wp.seq ?_
          refine chk_e h fun c8 h => ?_
          refine chk_e h fun c9 h => ?_
          refine let_e h fun r10 hr10 h => ?_
          refine bind_e h fun r11 hr11 h => ?_
          refine Wp.seq ?_
          refine Wp.drawn2 (n0 := 16) [] mixed ?_
          refine GoD.q rfl (QEx.fldP 0 rfl Tryz.underlying42 rfl ts39 rfl (.tmp rfl) rfl) rfl (lt_b rfl) ?_
          refine GoD.qr rfl rfl (QEx.ldP1 (Shape.cells s) (iAV s.Kind) rfl ag39 (.tmp rfl) rfl) rfl (lt_b rfl) ?_
          refine GoD.q rfl (QEx.eqlK rfl (.tmp rfl) .con) rfl (lt_b rfl) ?_
          refine GoD.q rfl (QEx.move rfl (.tmp rfl)) rfl (lt_b rfl) ?_
          refine GoD.g rfl rfl rfl (fun hg => QEx.fldP 2 rfl Tryz.underlying42 rfl ts40 rfl (.tmp rfl) rfl) rfl (lt_b rfl) ?_
          refine GoD.gr rfl rfl rfl rfl (fun hg => QEx.ldP1 (Shape.cells s) ((slAV 2 Vec.av) s.Vertices) rfl ag40 (.opt (.tmp rfl) hg) rfl) rfl (lt_b rfl) ?_
          refine GoD.g rfl rfl rfl (fun hg => QEx.as (.cptr (Vec.cells (ix s.Vertices 1))) (QEx.idxL (E := Vec.av) rfl et40 (.opt (.tmp rfl) hg) .con (c8 hg))) rfl (lt_b rfl) ?_
          refine GoD.g rfl rfl rfl (fun hg => QEx.ldC (x := (Vec.av (ix s.Vertices 1))) rfl ag24 ts24 (.opt (.tmp rfl) hg) (.inl ⟨rfl, rfl, rfl⟩)) rfl (lt_b rfl) ?_
          refine GoD.g rfl rfl rfl (fun hg => QEx.fldP 2 rfl Tryz.underlying42 rfl ts40 rfl (.tmp rfl) rfl) rfl (lt_b rfl) ?_
          refine GoD.gr rfl rfl rfl rfl (fun hg => QEx.ldP1 (Shape.cells s) ((slAV 2 Vec.av) s.Vertices) rfl ag40 (.opt (.tmp rfl) hg) rfl) rfl (lt_b rfl) ?_
          refine GoD.g rfl rfl rfl (fun hg => QEx.as (.cptr (Vec.cells (ix s.Vertices 0))) (QEx.idxL (E := Vec.av) rfl et40 (.opt (.tmp rfl) hg) .con (c9 hg))) rfl (lt_b rfl) ?_
          refine GoD.g rfl rfl rfl (fun hg => QEx.ldC (x := (Vec.av (ix s.Vertices 0))) rfl ag24 ts24 (.opt (.tmp rfl) hg) (.inl ⟨rfl, rfl, rfl⟩)) rfl (lt_b rfl) ?_
          refine GoD.g rfl rfl rfl (fun hg => QEx.cal0 (r := (Vec.av r10)) [(Vec.av (ix s.Vertices 1)), (Vec.av (ix s.Vertices 0))] rfl Tryz.call26 (.cons (.opt (.tmp rfl) hg) (.cons (.opt (.tmp rfl) hg) .nil)) (ref03_Sub_ok hr10) rfl rfl) rfl (lt_b rfl) ?_
          refine GoD.g rfl rfl rfl (fun hg => QEx.cal0 (r := (iAV r11)) [(Vec.av r10)] rfl Tryz.call84 (.cons (.opt (.tmp rfl) hg) .nil) (ref03_Length_ok (gcall hr11 hg)) rfl rfl) rfl (lt_b rfl) ?_
          refine GoD.g rfl rfl rfl (fun hg => QEx.lssK rfl (.opt (.tmp rfl) hg) .con) rfl (lt_b rfl) ?_
          refine GoD.q rfl (QEx.pickK rfl (.tmp rfl) (fun hp => (.opt (.tmp rfl) (beq_t hp))) (fun hp => .con)) rfl (lt_b rfl) ?_
          refine GoD.nil ⟨by kernel_rfl, by kernel_rfl, by kernel_rfl, by kernel_rfl, by kernel_rfl, ?_⟩
          refine GoT.nil ?_
          refine Wp.condS h rfl (fun h => ?_) (fun h => ?_)
          · refine Wp.seq ?_
            refine Wp.region ?_
            refine GoT.q rfl (QEx.as (iAV 12) (QEx.assign rfl .con)) rfl (lt_b rfl) ?_
            refine GoT.nil ?_
            refine Wp.ret ?_
            cases h
            exact LeafQ.ret [] (by decide) (.cons (.tmp rfl) .nil) rfl
          · refine Wp.skip ?_
            refine Wp.seq ?_
            refine bind_e h fun r12 hr12 h => ?_
            refine bind_e h fun r13 hr13 h => ?_
            refine bind_e h fun r14 hr14 h => ?_
            refine Wp.seq ?_
            refine Wp.region ?_
            refine GoT.q rfl (QEx.fldP 0 rfl Tryz.underlying42 rfl ts39 rfl (.tmp rfl) rfl) rfl (lt_b rfl) ?_
            refine GoT.qr rfl rfl (QEx.ldP1 (Shape.cells s) (iAV s.Kind) rfl ag39 (.tmp rfl) rfl) rfl (lt_b rfl) ?_
            refine GoT.q rfl (QEx.eqlK rfl (.tmp rfl) .con) rfl (lt_b rfl) ?_
            refine GoT.q rfl (QEx.move rfl (.tmp rfl)) rfl (lt_b rfl) ?_
            refine GoT.g rfl rfl rfl (fun hg => QEx.fldP 2 rfl Tryz.underlying42 rfl ts40 rfl (.tmp rfl) rfl) rfl (lt_b rfl) ?_
            refine GoT.gr rfl rfl rfl rfl (fun hg => QEx.ldP1 (Shape.cells s) ((slAV 2 Vec.av) s.Vertices) rfl ag40 (.opt (.tmp rfl) hg) rfl) rfl (lt_b rfl) ?_
            refine GoT.g rfl rfl rfl (fun hg => QEx.cal0 (r := (boolAV r12)) [((slAV 2 Vec.av) s.Vertices)] rfl Tryz.call104 (.cons (.opt (.tmp rfl) hg) .nil) (ref11_IsConvex_ok (gcall hr12 hg)) rfl rfl) rfl (lt_b rfl) ?_
            refine GoT.g rfl rfl rfl (fun hg => QEx.notK rfl (.opt (.tmp rfl) hg)) rfl (lt_b rfl) ?_
            refine GoT.g rfl rfl rfl (fun hg => QEx.move rfl (.opt (.tmp rfl) hg)) rfl (lt_b rfl) ?_
            refine GoT.g2 rfl rfl rfl (fun hg => QEx.fldP 2 rfl Tryz.underlying42 rfl ts40 rfl (.tmp rfl) rfl) rfl (lt_b rfl) ?_
            refine GoT.gr2 rfl rfl rfl rfl (fun hg => QEx.ldP1 (Shape.cells s) ((slAV 2 Vec.av) s.Vertices) rfl ag40 (.opt (.tmp rfl) hg) rfl) rfl (lt_b rfl) ?_
            refine GoT.g2 rfl rfl rfl (fun hg => QEx.cal0 (r := (iAV r13)) [((slAV 2 Vec.av) s.Vertices)] rfl Tryz.call105 (.cons (.opt (.tmp rfl) hg) .nil) (ref11_ShortestEdge_ok (gcall hr13 hg)) rfl rfl) rfl (lt_b rfl) ?_
            refine GoT.g2 rfl rfl rfl (fun hg => QEx.lssK rfl (.opt (.tmp rfl) hg) .con) rfl (lt_b rfl) ?_
            refine GoT.g rfl rfl rfl (fun hg => QEx.pickK rfl (.opt (.tmp rfl) hg) (fun hp => .con) (fun hp => (.opt (.tmp rfl) (and_i hg (beq_f hp))))) rfl (lt_b rfl) ?_
            refine GoT.g rfl rfl rfl (fun hg => QEx.move rfl (.opt (.tmp rfl) hg)) rfl (lt_b rfl) ?_
            refine GoT.g2 rfl rfl rfl (fun hg => QEx.fldP 2 rfl Tryz.underlying42 rfl ts40 rfl (.tmp rfl) rfl) rfl (lt_b rfl) ?_
            refine GoT.gr2 rfl rfl rfl rfl (fun hg => QEx.ldP1 (Shape.cells s) ((slAV 2 Vec.av) s.Vertices) rfl ag40 (.opt (.tmp rfl) hg) rfl) rfl (lt_b rfl) ?_
            refine GoT.g2 rfl rfl rfl (fun hg => QEx.cal0 (r := (iAV r14)) [((slAV 2 Vec.av) s.Vertices)] rfl Tryz.call86 (.cons (.opt (.tmp rfl) hg) .nil) (ref11_Area_ok (gcall hr14 hg)) rfl rfl) rfl (lt_b rfl) ?_
            refine GoT.g2 rfl rfl rfl (fun hg => QEx.lssK rfl (.opt (.tmp rfl) hg) .con) rfl (lt_b rfl) ?_
            refine GoT.g rfl rfl rfl (fun hg => QEx.pickK rfl (.opt (.tmp rfl) hg) (fun hp => .con) (fun hp => (.opt (.tmp rfl) (and_i hg (beq_f hp))))) rfl (lt_b rfl) ?_
            refine GoT.q rfl (QEx.pickK rfl (.tmp rfl) (fun hp => (.opt (.tmp rfl) (beq_t hp))) (fun hp => .con)) rfl (lt_b rfl) ?_
            refine GoT.nil ?_
            refine Wp.condS h rfl (fun h => ?_) (fun h => ?_)
            · refine Wp.seq ?_
              refine Wp.region ?_
              refine GoT.q rfl (QEx.as (iAV 12) (QEx.assign rfl .con)) rfl (lt_b rfl) ?_
              refine GoT.nil ?_
              refine Wp.ret ?_
              cases h
              exact LeafQ.ret [] (by decide) (.cons (.tmp rfl) .nil) rfl
            · refine Wp.skip ?_
              refine Wp.seq ?_
              refine Wp.region ?_
              refine GoT.q rfl (QEx.as (iAV 0) (QEx.assign rfl .con)) rfl (lt_b rfl) ?_
              refine GoT.nil ?_
              refine Wp.ret ?_
              cases h
              exact LeafQ.ret [] (by decide) (.cons (.tmp rfl) .nil) rfl
      · refine Wp.seq ?_
        refine Wp.region ?_
        refine GoT.q rfl (QEx.as (iAV 0) (QEx.assign rfl .con)) rfl (lt_b rfl) ?_
        refine GoT.nil ?_
        refine Wp.block ?_
        refine Wp.loop1 (fun v2 => ⟨[(1, (.ptr 1 0)), (3, (iAV v2))], [(1, .cells (Shape.cells s))], []⟩) (fun n v2 => ref12_Validate_l1 s (ref12_Validate_j2 s) n v2 = some r) fuel 0 [] [] h (LS.to.mk (.r rfl rfl (.b rfl rfl .n)) (.b rfl rfl rfl .n) rfl) ?_
        rintro (_ | n2) v2 h
        · exact none_e h
        rw [ref12_Validate_l1] at h
        refine Wp.seq ?_
        refine Wp.seq ?_
        refine Wp.region ?_
        refine GoT.q rfl (QEx.move rfl (.tmp rfl)) rfl (lt_b rfl) ?_
        refine GoT.q rfl (QEx.fldP 2 rfl Tryz.underlying42 rfl ts40 rfl (.tmp rfl) rfl) rfl (lt_b rfl) ?_
        refine GoT.qr rfl rfl (QEx.ldP1 (Shape.cells s) ((slAV 2 Vec.av) s.Vertices) rfl ag40 (.tmp rfl) rfl) rfl (lt_b rfl) ?_
        refine GoT.q rfl (QEx.lenL rfl ⟨_, Tryz.underlying40⟩ (.tmp rfl)) rfl (lt_b rfl) ?_
        refine GoT.q rfl (QEx.lssK rfl (.tmp rfl) (.tmp rfl)) rfl (lt_b rfl) ?_
        refine GoT.nil ?_
        refine Wp.condS h rfl (fun h => ?_) (fun h => ?_)
        · refine Wp.skip ?_
          refine Wp.seq ?_
          refine Wp.block ?_
          refine chk_e h fun c3 h => ?_
          refine let_e h fun r4 hr4 h => ?_
          refine chk_e h fun c5 h => ?_
          refine let_e h fun r6 hr6 h => ?_
          refine Wp.seq ?_
          refine Wp.region ?_
          refine GoT.q rfl (QEx.fldP 2 rfl Tryz.underlying42 rfl ts40 rfl (.tmp rfl) rfl) rfl (lt_b rfl) ?_
          refine GoT.qr rfl rfl (QEx.ldP1 (Shape.cells s) ((slAV 2 Vec.av) s.Vertices) rfl ag40 (.tmp rfl) rfl) rfl (lt_b rfl) ?_
          refine GoT.q rfl (QEx.move rfl (.tmp rfl)) rfl (lt_b rfl) ?_
          refine GoT.q rfl (QEx.as (.cptr (Vec.cells (ix s.Vertices v2))) (QEx.idxL (E := Vec.av) rfl et40 (.tmp rfl) (.tmp rfl) c3)) rfl (lt_b rfl) ?_
          refine GoT.q rfl (QEx.fldC [(iAV ((ix s.Vertices v2).X))] rfl Tryz.underlying24 rfl ts3 rfl (.tmp rfl) rfl) rfl (lt_b rfl) ?_
          refine GoT.q rfl (QEx.ldC (x := (iAV ((ix s.Vertices v2).X))) rfl ag3 ts3 (.tmp rfl) (.inr ⟨rfl, rfl⟩)) rfl (lt_b rfl) ?_
          refine GoT.q rfl (QEx.cal0 (r := (boolAV r4)) [(iAV ((ix s.Vertices v2).X)), (iAV 1048576)] rfl Tryz.call103 (.cons (.tmp rfl) (.cons .con .nil)) (ref12_within_ok hr4) rfl rfl) rfl (lt_b rfl) ?_
          refine GoT.q rfl (QEx.notK rfl (.tmp rfl)) rfl (lt_b rfl) ?_
          refine GoT.q rfl (QEx.move rfl (.tmp rfl)) rfl (lt_b rfl) ?_
          refine GoT.g rfl rfl rfl (fun hg => QEx.fldP 2 rfl Tryz.underlying42 rfl ts40 rfl (.tmp rfl) rfl) rfl (lt_b rfl) ?_
          refine GoT.gr rfl rfl rfl rfl (fun hg => QEx.ldP1 (Shape.cells s) ((slAV 2 Vec.av) s.Vertices) rfl ag40 (.opt (.tmp rfl) hg) rfl) rfl (lt_b rfl) ?_
          refine GoT.g rfl rfl rfl (fun hg => QEx.move rfl (.tmp rfl)) rfl (lt_b rfl) ?_
          refine GoT.g rfl rfl rfl (fun hg => QEx.as (.cptr (Vec.cells (ix s.Vertices v2))) (QEx.idxL (E := Vec.av) rfl et40 (.opt (.tmp rfl) hg) (.opt (.tmp rfl) hg) (c5 hg))) rfl (lt_b rfl) ?_
          refine GoT.g rfl rfl rfl (fun hg => QEx.fldC [(iAV ((ix s.Vertices v2).Y))] rfl Tryz.underlying24 rfl ts3 rfl (.opt (.tmp rfl) hg) rfl) rfl (lt_b rfl) ?_
          refine GoT.g rfl rfl rfl (fun hg => QEx.ldC (x := (iAV ((ix s.Vertices v2).Y))) rfl ag3 ts3 (.opt (.tmp rfl) hg) (.inr ⟨rfl, rfl⟩)) rfl (lt_b rfl) ?_
          refine GoT.g rfl rfl rfl (fun hg => QEx.cal0 (r := (boolAV r6)) [(iAV ((ix s.Vertices v2).Y)), (iAV 1048576)] rfl Tryz.call103 (.cons (.opt (.tmp rfl) hg) (.cons .con .nil)) (ref12_within_ok hr6) rfl rfl) rfl (lt_b rfl) ?_
          refine GoT.g rfl rfl rfl (fun hg => QEx.notK rfl (.opt (.tmp rfl) hg)) rfl (lt_b rfl) ?_
          refine GoT.q rfl (QEx.pickK rfl (.tmp rfl) (fun hp => .con) (fun hp => (.opt (.tmp rfl) (beq_f hp)))) rfl (lt_b rfl) ?_
          refine GoT.nil ?_
          refine Wp.condS h rfl (fun h => ?_) (fun h => ?_)
          · refine Wp.seq ?_
            refine Wp.region ?_
            refine GoT.q rfl (QEx.as (iAV 6) (QEx.assign rfl .con)) rfl (lt_b rfl) ?_
            refine GoT.nil ?_
            refine Wp.ret ?_
            cases h
            exact LeafQ.ret [] (by decide) (.cons (.tmp rfl) .nil) rfl
          · refine Wp.skip ?_
            refine let_e h fun x7 hx7 h => ?_
            refine Wp.region ?_
            refine GoT.q rfl (QEx.move rfl (.tmp rfl)) rfl (lt_b rfl) ?_
            refine GoT.q rfl (QEx.addK rfl (.tmp rfl) .con) rfl (lt_b rfl) ?_
            refine GoT.q rfl (QEx.eq (QEx.assign rfl (.tmp rfl)) (congrArg iAV hx7)) rfl (lt_b rfl) ?_
            refine GoT.nil ?_
            exact Round1.mk x7 [] [] h (LS.to.mk (.r rfl rfl (.b rfl rfl .n)) (.b rfl rfl rfl .n) rfl)
        · refine Wp.exit ?_
          exact Joined0.mk [] [] h (LS.to.mk (.r rfl rfl .n) (.b rfl rfl rfl .n) rfl)
theorem ref01_Mul_ok {a : Int} {b : Int} {r : Int} (h : ref01_Mul a b = some r) : FnR Tryz.prog 27 [(iAV a), (iAV b)] (iAV r) := by
  refine FnR.intro' (fn := Tryz.f27) (N := 12) Tryz.func27 rfl rfl (Nat.le_of_ble_eq_true rfl) [] ?_
  refine Wp.seq ?_
  refine Wp.region ?_
  refine GoT.q rfl (QEx.as (iAV 0) (QEx.assign rfl .con)) rfl (lt_b rfl) ?_
  refine GoT.nil ?_
  refine let_e h fun r1 hr1 h => ?_
  refine let_e h fun r2 hr2 h => ?_
  refine bind_e h fun r3 hr3 h => ?_
  refine let_e h fun r4 hr4 h => ?_
  refine Wp.seq ?_
  refine Wp.region ?_
  refine GoT.q rfl (QEx.move rfl (.tmp rfl)) rfl (lt_b rfl) ?_
  refine GoT.q rfl (QEx.cal0 (r := (iAV r1)) [(iAV a)] rfl Tryz.call43 (.cons (.tmp rfl) .nil) (ref01_Saturate_ok hr1) rfl rfl) rfl (lt_b rfl) ?_
  refine GoT.q rfl (QEx.move rfl (.tmp rfl)) rfl (lt_b rfl) ?_
  refine GoT.q rfl (QEx.cal0 (r := (iAV r2)) [(iAV b)] rfl Tryz.call43 (.cons (.tmp rfl) .nil) (ref01_Saturate_ok hr2) rfl rfl) rfl (lt_b rfl) ?_
  refine GoT.q rfl (QEx.mulK rfl (.tmp rfl) (.tmp rfl)) rfl (lt_b rfl) ?_
  refine GoT.q rfl (QEx.cal0 (r := (iAV r3)) [(iAV (w64 (r1 * r2))), (iAV 65536)] rfl Tryz.call44 (.cons (.tmp rfl) (.cons .con .nil)) (ref01_RoundDiv_ok hr3) rfl rfl) rfl (lt_b rfl) ?_
  refine GoT.q rfl (QEx.cal0 (r := (iAV r4)) [(iAV r3)] rfl Tryz.call43 (.cons (.tmp rfl) .nil) (ref01_Saturate_ok hr4) rfl rfl) rfl (lt_b rfl) ?_
  refine GoT.q rfl (QEx.assign rfl (.tmp rfl)) rfl (lt_b rfl) ?_
  refine GoT.nil ?_
  refine Wp.ret ?_
  cases h
  exact LeafQ.ret [] (by decide) (.cons (.tmp rfl) .nil) rfl
theorem ref01_Add_ok {a : Int} {b : Int} {r : Int} (h : ref01_Add a b = r) : FnR Tryz.prog 28 [(iAV a), (iAV b)] (iAV r) := by
  refine FnR.intro' (fn := Tryz.f28) (N := 11) Tryz.func28 rfl rfl (Nat.le_of_ble_eq_true rfl) [] ?_
  refine Wp.seq ?_
  refine Wp.region ?_
  refine GoT.q rfl (QEx.as (iAV 0) (QEx.assign rfl .con)) rfl (lt_b rfl) ?_
  refine GoT.nil ?_
  refine let_e h fun r1 hr1 h => ?_
  refine let_e h fun r2 hr2 h => ?_
  refine let_e h fun r3 hr3 h => ?_
  refine Wp.seq ?_
  refine Wp.region ?_
  refine GoT.q rfl (QEx.move rfl (.tmp rfl)) rfl (lt_b rfl) ?_
  refine GoT.q rfl (QEx.cal0 (r := (iAV r1)) [(iAV a)] rfl Tryz.call43 (.cons (.tmp rfl) .nil) (ref01_Saturate_ok hr1) rfl rfl) rfl (lt_b rfl) ?_
  refine GoT.q rfl (QEx.move rfl (.tmp rfl)) rfl (lt_b rfl) ?_
  refine GoT.q rfl (QEx.cal0 (r := (iAV r2)) [(iAV b)] rfl Tryz.call43 (.cons (.tmp rfl) .nil) (ref01_Saturate_ok hr2) rfl rfl) rfl (lt_b rfl) ?_
  refine GoT.q rfl (QEx.addK rfl (.tmp rfl) (.tmp rfl)) rfl (lt_b rfl) ?_
  refine GoT.q rfl (QEx.cal0 (r := (iAV r3)) [(iAV (w64 (r1 + r2)))] rfl Tryz.call43 (.cons (.tmp rfl) .nil) (ref01_Saturate_ok hr3) rfl rfl) rfl (lt_b rfl) ?_
  refine GoT.q rfl (QEx.assign rfl (.tmp rfl)) rfl (lt_b rfl) ?_
  refine GoT.nil ?_
  refine Wp.ret ?_
  cases h
  exact LeafQ.ret [] (by decide) (.cons (.tmp rfl) .nil) rfl
theorem ref01_Lerp_ok {a : Int} {b : Int} {t : Int} {r : Int} (h : ref01_Lerp a b t = some r) : FnR Tryz.prog 106 [(iAV a), (iAV b), (iAV t)] (iAV r) := by
  refine FnR.intro' (fn := Tryz.f106) (N := 14) Tryz.func106 rfl rfl (Nat.le_of_ble_eq_true rfl) [] ?_
  refine Wp.seq ?_
  refine Wp.region ?_
  refine GoT.q rfl (QEx.as (iAV 0) (QEx.assign rfl .con)) rfl (lt_b rfl) ?_
  refine GoT.nil ?_
  refine let_e h fun r1 hr1 h => ?_
  refine bind_e h fun r2 hr2 h => ?_
  refine let_e h fun r3 hr3 h => ?_
  refine Wp.seq ?_
  refine Wp.region ?_
  refine GoT.q rfl (QEx.move rfl (.tmp rfl)) rfl (lt_b rfl) ?_
  refine GoT.q rfl (QEx.move rfl (.tmp rfl)) rfl (lt_b rfl) ?_
  refine GoT.q rfl (QEx.move rfl (.tmp rfl)) rfl (lt_b rfl) ?_
  refine GoT.q rfl (QEx.cal0 (r := (iAV r1)) [(iAV b), (iAV a)] rfl Tryz.call29 (.cons (.tmp rfl) (.cons (.tmp rfl) .nil)) (ref01_Sub_ok hr1) rfl rfl) rfl (lt_b rfl) ?_
  refine GoT.q rfl (QEx.move rfl (.tmp rfl)) rfl (lt_b rfl) ?_
  refine GoT.q rfl (QEx.cal0 (r := (iAV r2)) [(iAV r1), (iAV t)] rfl Tryz.call27 (.cons (.tmp rfl) (.cons (.tmp rfl) .nil)) (ref01_Mul_ok hr2) rfl rfl) rfl (lt_b rfl) ?_
  refine GoT.q rfl (QEx.cal0 (r := (iAV r3)) [(iAV a), (iAV r2)] rfl Tryz.call28 (.cons (.tmp rfl) (.cons (.tmp rfl) .nil)) (ref01_Add_ok hr3) rfl rfl) rfl (lt_b rfl) ?_
  refine GoT.q rfl (QEx.assign rfl (.tmp rfl)) rfl (lt_b rfl) ?_
  refine GoT.nil ?_
  refine Wp.ret ?_
  cases h
  exact LeafQ.ret [] (by decide) (.cons (.tmp rfl) .nil) rfl
theorem ref03_Lerp_ok {a : Vec} {b : Vec} {t : Int} {r : Vec} (h : ref03_Lerp a b t = some r) : FnR Tryz.prog 85 [(Vec.av a), (Vec.av b), (iAV t)] (Vec.av r) := by
  refine FnR.intro' (fn := Tryz.f85) (N := 20) Tryz.func85 rfl rfl (Nat.le_of_ble_eq_true rfl) [3, 4, 6] ?_
  refine Wp.seq ?_
  refine Wp.region ?_
  refine GoT.a rfl (AEx.bx (Z := (Vec.cells a)) rfl (.tmp rfl) rfl rfl rfl rfl) rfl (lt_b rfl) ?_
  refine GoT.a rfl (AEx.bx (Z := (Vec.cells b)) rfl (.tmp rfl) rfl rfl rfl rfl) rfl (lt_b rfl) ?_
  refine GoT.a rfl (AEx.alZ rfl zt24 rfl rfl) rfl (lt_b rfl) ?_
  refine GoT.nil ?_
  refine bind_e h fun r1 hr1 h => ?_
  refine bind_e h fun r2 hr2 h => ?_
  refine let_e h fun x3 hx3 h => ?_
  refine Wp.seq ?_
  refine Wp.drawn2 (n0 := 14) [] mixed ?_
  refine GoD.q rfl (QEx.fldP 0 rfl Tryz.underlying24 rfl ts3 rfl (.tmp rfl) rfl) rfl (lt_b rfl) ?_
  refine GoD.qr rfl rfl (QEx.ldP1 (Vec.cells a) (iAV a.X) rfl ag3 (.tmp rfl) rfl) rfl (lt_b rfl) ?_
  refine GoD.q rfl (QEx.fldP 0 rfl Tryz.underlying24 rfl ts3 rfl (.tmp rfl) rfl) rfl (lt_b rfl) ?_
  refine GoD.qr rfl rfl (QEx.ldP1 (Vec.cells b) (iAV b.X) rfl ag3 (.tmp rfl) rfl) rfl (lt_b rfl) ?_
  refine GoD.q rfl (QEx.move rfl (.tmp rfl)) rfl (lt_b rfl) ?_
  refine GoD.q rfl (QEx.cal0 (r := (iAV r1)) [(iAV a.X), (iAV b.X), (iAV t)] rfl Tryz.call106 (.cons (.tmp rfl) (.cons (.tmp rfl) (.cons (.tmp rfl) .nil))) (ref01_Lerp_ok hr1) rfl rfl) rfl (lt_b rfl) ?_
  refine GoD.q rfl (QEx.fldP 1 rfl Tryz.underlying24 rfl ts3 rfl (.tmp rfl) rfl) rfl (lt_b rfl) ?_
  refine GoD.qr rfl rfl (QEx.ldP1 (Vec.cells a) (iAV a.Y) rfl ag3 (.tmp rfl) rfl) rfl (lt_b rfl) ?_
  refine GoD.q rfl (QEx.fldP 1 rfl Tryz.underlying24 rfl ts3 rfl (.tmp rfl) rfl) rfl (lt_b rfl) ?_
  refine GoD.qr rfl rfl (QEx.ldP1 (Vec.cells b) (iAV b.Y) rfl ag3 (.tmp rfl) rfl) rfl (lt_b rfl) ?_
  refine GoD.q rfl (QEx.move rfl (.tmp rfl)) rfl (lt_b rfl) ?_
  refine GoD.q rfl (QEx.cal0 (r := (iAV r2)) [(iAV a.Y), (iAV b.Y), (iAV t)] rfl Tryz.call106 (.cons (.tmp rfl) (.cons (.tmp rfl) (.cons (.tmp rfl) .nil))) (ref01_Lerp_ok hr2) rfl rfl) rfl (lt_b rfl) ?_
  refine GoD.q rfl (QEx.as (Vec.av (⟨r1, r2⟩ : Vec)) (QEx.buildZ rfl Tryz.underlying24 zt24 (by kernel_rfl) (.cons rfl (.tmp rfl) rfl rfl (le_b rfl) (.cons rfl (.tmp rfl) rfl rfl (le_b rfl) .nil)))) rfl (lt_b rfl) ?_
  refine GoD.s rfl (Z := (Vec.cells x3)) rfl rfl ts24 (.tmp rfl) rfl (.tmp rfl) rfl rfl (le_b rfl) (congrArg (fun (x : Vec) => (Vec.cells x)) hx3) ?_
  refine GoD.nil ⟨by kernel_rfl, by kernel_rfl, by kernel_rfl, by kernel_rfl, by kernel_rfl, ?_⟩
  refine GoT.nil ?_
  refine Wp.ret ?_
  cases h
  exact LeafQ.ret [] (by decide) (.cons (.agg rfl rfl ag24 ts24) .nil) rfl
theorem ref11_Centroid_ok {vertices : List Vec} {r : Vec} (h : ref11_Centroid vertices = some r) : FnR Tryz.prog 87 [((slAV 2 Vec.av) vertices)] (Vec.av r) := by
  refine FnR.intro' (fn := Tryz.f87) (N := 88) Tryz.func87 rfl rfl (Nat.le_of_ble_eq_true rfl) [2, 3, 8, 9, 11, 15, 20, 25, 29, 34] ?_
  refine Wp.seq ?_
  refine Wp.region ?_
  refine GoT.a rfl (AEx.alZ rfl zt24 rfl rfl) rfl (lt_b rfl) ?_
  refine GoT.nil ?_
  refine Wp.seq ?_
  refine bind_e h fun r1 hr1 h => ?_
  refine Wp.seq ?_
  refine Wp.region ?_
  refine GoT.q rfl (QEx.move rfl (.tmp rfl)) rfl (lt_b rfl) ?_
  refine GoT.q rfl (QEx.cal0 (r := (boolAV r1)) [((slAV 2 Vec.av) vertices)] rfl Tryz.call104 (.cons (.tmp rfl) .nil) (ref11_IsConvex_ok hr1) rfl rfl) rfl (lt_b rfl) ?_
  refine GoT.q rfl (QEx.notK rfl (.tmp rfl)) rfl (lt_b rfl) ?_
  refine GoT.nil ?_
  refine Wp.condS h rfl (fun h => ?_) (fun h => ?_)
  · refine let_e h fun x2 hx2 h => ?_
    refine Wp.seq ?_
    refine Wp.region ?_
    refine GoT.q rfl (QEx.as (Vec.av (⟨0, 0⟩ : Vec)) (QEx.buildZ rfl Tryz.underlying24 zt24 (by kernel_rfl) .nil)) rfl (lt_b rfl) ?_
    refine GoT.s rfl (AEx.sto (Z := (Vec.cells x2)) rfl rfl ts24 (.tmp rfl) rfl (.tmp rfl) rfl rfl (le_b rfl) (congrArg (fun (x : Vec) => (Vec.cells x)) hx2)) rfl ?_
    refine GoT.nil ?_
    refine Wp.ret ?_
    cases h
    exact LeafQ.ret [] (by decide) (.cons (.agg rfl rfl ag24 ts24) .nil) rfl
  · refine Wp.skip ?_
    refine chk_e h fun c3 h => ?_
    refine let_e h fun x4 hx4 h => ?_
    refine Wp.seq ?_
    refine Wp.region ?_
    refine GoT.q rfl (QEx.move rfl (.tmp rfl)) rfl (lt_b rfl) ?_
    refine GoT.q rfl (QEx.as (.cptr (Vec.cells (ix vertices 0))) (QEx.idxL (E := Vec.av) rfl et40 (.tmp rfl) .con c3)) rfl (lt_b rfl) ?_
    refine GoT.q rfl (QEx.ldC (x := (Vec.av (ix vertices 0))) rfl ag24 ts24 (.tmp rfl) (.inl ⟨rfl, rfl, rfl⟩)) rfl (lt_b rfl) ?_
    refine GoT.a rfl (AEx.alZ rfl zt24 rfl rfl) rfl (lt_b rfl) ?_
    refine GoT.s rfl (AEx.sto (Z := (Vec.cells x4)) rfl rfl ts24 (.tmp rfl) rfl (.tmp rfl) rfl rfl (le_b rfl) (congrArg (fun (x : Vec) => (Vec.cells x)) hx4)) rfl ?_
    refine GoT.nil ?_
    refine Wp.seq ?_
    refine Wp.region ?_
    refine GoT.q rfl (QEx.as (iAV 0) (QEx.assign rfl .con)) rfl (lt_b rfl) ?_
    refine GoT.q rfl (QEx.as (iAV 0) (QEx.assign rfl .con)) rfl (lt_b rfl) ?_
    refine GoT.q rfl (QEx.as (iAV 0) (QEx.assign rfl .con)) rfl (lt_b rfl) ?_
    refine GoT.nil ?_
    refine Wp.join3 (fun v5 v6 v7 => ⟨[(2, (.ptr 2 0)), (3, (.ptr 3 0)), (4, (iAV v5)), (5, (iAV v6)), (6, (iAV v7))], [(2, .cells (Vec.cells Vec.zero)), (3, .cells (Vec.cells x4))], [8, 9, 11, 15, 20, 25, 29, 34]⟩) (fun v5 v6 v7 => (ref11_Centroid_j2 x4) v5 v6 v7 = some r) ?_ ?_
    · intro v5 v6 v7 h
      refine Wp.seq ?_
      refine Wp.seq ?_
      refine Wp.region ?_
      refine GoT.q rfl (QEx.move rfl (.tmp rfl)) rfl (lt_b rfl) ?_
      refine GoT.q rfl (QEx.eqlK rfl (.tmp rfl) .con) rfl (lt_b rfl) ?_
      refine GoT.nil ?_
      refine Wp.condS h rfl (fun h => ?_) (fun h => ?_)
      · refine let_e h fun x23 hx23 h => ?_
        refine Wp.seq ?_
        refine Wp.region ?_
        refine GoT.qr rfl rfl (QEx.ldP (Vec.cells x4) (Vec.av x4) rfl ag24 ts24 (.tmp rfl) (le_b rfl) rfl) rfl (lt_b rfl) ?_
        refine GoT.s rfl (AEx.sto (Z := (Vec.cells x23)) rfl rfl ts24 (.tmp rfl) rfl (.tmp rfl) rfl rfl (le_b rfl) (congrArg (fun (x : Vec) => (Vec.cells x)) hx23)) rfl ?_
        refine GoT.nil ?_
        refine Wp.ret ?_
        cases h
        exact LeafQ.ret [] (by decide) (.cons (.agg rfl rfl ag24 ts24) .nil) rfl
      · refine Wp.skip ?_
        refine bind_e h fun r24 hr24 h => ?_
        refine bind_e h fun r25 hr25 h => ?_
        refine let_e h fun x26 hx26 h => ?_
        refine Wp.seq ?_
        refine Wp.drawn2 (n0 := 16) [8, 9, 11, 15, 20, 25, 29, 34] mixed ?_
        refine GoD.q rfl (QEx.fldP 0 rfl Tryz.underlying24 rfl ts3 rfl (.tmp rfl) rfl) rfl (lt_b rfl) ?_
        refine GoD.qr rfl rfl (QEx.ldP1 (Vec.cells x4) (iAV x4.X) rfl ag3 (.tmp rfl) rfl) rfl (lt_b rfl) ?_
        refine GoD.q rfl (QEx.move rfl (.tmp rfl)) rfl (lt_b rfl) ?_
        refine GoD.q rfl (QEx.move rfl (.tmp rfl)) rfl (lt_b rfl) ?_
        refine GoD.q rfl (QEx.mulK rfl .con (.tmp rfl)) rfl (lt_b rfl) ?_
        refine GoD.q rfl (QEx.cal0 (r := (iAV r24)) [(iAV v6), (iAV (w64 (3 * v5)))] rfl Tryz.call44 (.cons (.tmp rfl) (.cons (.tmp rfl) .nil)) (ref01_RoundDiv_ok hr24) rfl rfl) rfl (lt_b rfl) ?_
        refine GoD.q rfl (QEx.addK rfl (.tmp rfl) (.tmp rfl)) rfl (lt_b rfl) ?_
        refine GoD.q rfl (QEx.fldP 1 rfl Tryz.underlying24 rfl ts3 rfl (.tmp rfl) rfl) rfl (lt_b rfl) ?_
        refine GoD.qr rfl rfl (QEx.ldP1 (Vec.cells x4) (iAV x4.Y) rfl ag3 (.tmp rfl) rfl) rfl (lt_b rfl) ?_
        refine GoD.q rfl (QEx.move rfl (.tmp rfl)) rfl (lt_b rfl) ?_
        refine GoD.q rfl (QEx.move rfl (.tmp rfl)) rfl (lt_b rfl) ?_
        refine GoD.q rfl (QEx.mulK rfl .con (.tmp rfl)) rfl (lt_b rfl) ?_
        refine GoD.q rfl (QEx.cal0 (r := (iAV r25)) [(iAV v7), (iAV (w64 (3 * v5)))] rfl Tryz.call44 (.cons (.tmp rfl) (.cons (.tmp rfl) .nil)) (ref01_RoundDiv_ok hr25) rfl rfl) rfl (lt_b rfl) ?_
        refine GoD.q rfl (QEx.addK rfl (.tmp rfl) (.tmp rfl)) rfl (lt_b rfl) ?_
        refine GoD.q rfl (QEx.as (Vec.av (⟨(w64 (x4.X + r24)), (w64 (x4.Y + r25))⟩ : Vec)) (QEx.buildZ rfl Tryz.underlying24 zt24 (by kernel_rfl) (.cons rfl (.tmp rfl) rfl rfl (le_b rfl) (.cons rfl (.tmp rfl) rfl rfl (le_b rfl) .nil)))) rfl (lt_b rfl) ?_
        refine GoD.s rfl (Z := (Vec.cells x26)) rfl rfl ts24 (.tmp rfl) rfl (.tmp rfl) rfl rfl (le_b rfl) (congrArg (fun (x : Vec) => (Vec.cells x)) hx26) ?_
        refine GoD.nil ⟨by kernel_rfl, by kernel_rfl, by kernel_rfl, by kernel_rfl, by kernel_rfl, ?_⟩
        refine GoT.nil ?_
        refine Wp.ret ?_
        cases h
        exact LeafQ.ret [] (by decide) (.cons (.agg rfl rfl ag24 ts24) .nil) rfl
    · refine Wp.seq ?_
      refine Wp.region ?_
      refine GoT.q rfl (QEx.as (iAV 1) (QEx.assign rfl .con)) rfl (lt_b rfl) ?_
      refine GoT.nil ?_
      refine Wp.block ?_
      refine Wp.loop4 (fun v8 v9 v10 v11 => ⟨[(0, ((slAV 2 Vec.av) vertices)), (2, (.ptr 2 0)), (3, (.ptr 3 0)), (4, (iAV v8)), (5, (iAV v9)), (6, (iAV v10)), (7, (iAV v11))], [(2, .cells (Vec.cells Vec.zero)), (3, .cells (Vec.cells x4))], [8, 9, 11, 15, 20, 25, 29, 34]⟩) (fun n v8 v9 v10 v11 => ref11_Centroid_l1 vertices x4 (ref11_Centroid_j2 x4) n v8 v9 v10 v11 = some r) fuel 0 0 0 1 [] [] h (LS.to.mk (.b rfl rfl (.r rfl rfl (.r rfl rfl (.b rfl rfl (.b rfl rfl (.b rfl rfl (.b rfl rfl .n))))))) (.b rfl rfl rfl (.b rfl rfl rfl .n)) rfl) ?_
      rintro (_ | n2) v8 v9 v10 v11 h
      · exact none_e h
      rw [ref11_Centroid_l1] at h
      refine Wp.seq ?_
      refine Wp.seq ?_
      refine Wp.region ?_
      refine GoT.q rfl (QEx.move rfl (.tmp rfl)) rfl (lt_b rfl) ?_
      refine GoT.q rfl (QEx.addK rfl (.tmp rfl) .con) rfl (lt_b rfl) ?_
      refine GoT.q rfl (QEx.move rfl (.tmp rfl)) rfl (lt_b rfl) ?_
      refine GoT.q rfl (QEx.lenL rfl ⟨_, Tryz.underlying40⟩ (.tmp rfl)) rfl (lt_b rfl) ?_
      refine GoT.q rfl (QEx.lssK rfl (.tmp rfl) (.tmp rfl)) rfl (lt_b rfl) ?_
      refine GoT.nil ?_
      refine Wp.condS h rfl (fun h => ?_) (fun h => ?_)
      · refine Wp.skip ?_
        refine Wp.seq ?_
        refine Wp.block ?_
        refine chk_e h fun c12 h => ?_
        refine chk_e h fun c13 h => ?_
        refine bind_e h fun r14 hr14 h => ?_
        refine let_e h fun x15 hx15 h => ?_
        refine let_e h fun x16 hx16 h => ?_
        refine Wp.seq ?_
        refine Wp.drawn2 (n0 := 17) [11, 15, 20, 25, 29, 34] mixed ?_
        refine GoD.q rfl (QEx.move rfl (.tmp rfl)) rfl (lt_b rfl) ?_
        refine GoD.q rfl (QEx.move rfl (.tmp rfl)) rfl (lt_b rfl) ?_
        refine GoD.q rfl (QEx.as (.cptr (Vec.cells (ix vertices v11))) (QEx.idxL (E := Vec.av) rfl et40 (.tmp rfl) (.tmp rfl) c12)) rfl (lt_b rfl) ?_
        refine GoD.q rfl (QEx.ldC (x := (Vec.av (ix vertices v11))) rfl ag24 ts24 (.tmp rfl) (.inl ⟨rfl, rfl, rfl⟩)) rfl (lt_b rfl) ?_
        refine GoD.q rfl (QEx.move rfl (.tmp rfl)) rfl (lt_b rfl) ?_
        refine GoD.q rfl (QEx.move rfl (.tmp rfl)) rfl (lt_b rfl) ?_
        refine GoD.q rfl (QEx.addK rfl (.tmp rfl) .con) rfl (lt_b rfl) ?_
        refine GoD.q rfl (QEx.as (.cptr (Vec.cells (ix vertices (w64 (v11 + 1))))) (QEx.idxL (E := Vec.av) rfl et40 (.tmp rfl) (.tmp rfl) c13)) rfl (lt_b rfl) ?_
        refine GoD.q rfl (QEx.ldC (x := (Vec.av (ix vertices (w64 (v11 + 1))))) rfl ag24 ts24 (.tmp rfl) (.inl ⟨rfl, rfl, rfl⟩)) rfl (lt_b rfl) ?_
        refine GoD.q rfl (QEx.move rfl (.tmp rfl)) rfl (lt_b rfl) ?_
        refine GoD.q rfl (QEx.move rfl (.tmp rfl)) rfl (lt_b rfl) ?_
        refine GoD.q rfl (QEx.cal0 (r := (iAV r14)) [((slAV 2 Vec.av) vertices), (iAV v11)] rfl Tryz.call107 (.cons (.tmp rfl) (.cons (.tmp rfl) .nil)) (ref11_cross_ok hr14) rfl rfl) rfl (lt_b rfl) ?_
        refine GoD.al rfl rfl zt24 rfl (lt_b rfl) ?_
        refine GoD.al rfl rfl zt24 rfl (lt_b rfl) ?_
        refine GoD.s rfl (Z := (Vec.cells x15)) rfl rfl ts24 (.tmp rfl) rfl (.tmp rfl) rfl rfl (le_b rfl) (congrArg (fun (x : Vec) => (Vec.cells x)) hx15) ?_
        refine GoD.s rfl (Z := (Vec.cells x16)) rfl rfl ts24 (.tmp rfl) rfl (.tmp rfl) rfl rfl (le_b rfl) (congrArg (fun (x : Vec) => (Vec.cells x)) hx16) ?_
        refine GoD.q rfl (QEx.assign rfl (.tmp rfl)) rfl (lt_b rfl) ?_
        refine GoD.nil ⟨by kernel_rfl, by kernel_rfl, by kernel_rfl, by kernel_rfl, by kernel_rfl, ?_⟩
        refine GoT.nil ?_
        refine let_e h fun x17 hx17 h => ?_
        refine Wp.seq ?_
        refine Wp.region ?_
        refine GoT.q rfl (QEx.move rfl (.tmp rfl)) rfl (lt_b rfl) ?_
        refine GoT.q rfl (QEx.move rfl (.tmp rfl)) rfl (lt_b rfl) ?_
        refine GoT.q rfl (QEx.addK rfl (.tmp rfl) (.tmp rfl)) rfl (lt_b rfl) ?_
        refine GoT.q rfl (QEx.eq (QEx.assign rfl (.tmp rfl)) (congrArg iAV hx17)) rfl (lt_b rfl) ?_
        refine GoT.nil ?_
        refine let_e h fun x18 hx18 h => ?_
        refine let_e h fun x19 hx19 h => ?_
        refine Wp.seq ?_
        refine Wp.region ?_
        refine GoT.q rfl (QEx.move rfl (.tmp rfl)) rfl (lt_b rfl) ?_
        refine GoT.q rfl (QEx.fldP 0 rfl Tryz.underlying24 rfl ts3 rfl (.tmp rfl) rfl) rfl (lt_b rfl) ?_
        refine GoT.qr rfl rfl (QEx.ldP1 (Vec.cells x15) (iAV x15.X) rfl ag3 (.tmp rfl) rfl) rfl (lt_b rfl) ?_
        refine GoT.q rfl (QEx.fldP 0 rfl Tryz.underlying24 rfl ts3 rfl (.tmp rfl) rfl) rfl (lt_b rfl) ?_
        refine GoT.qr rfl rfl (QEx.ldP1 (Vec.cells x4) (iAV x4.X) rfl ag3 (.tmp rfl) rfl) rfl (lt_b rfl) ?_
        refine GoT.q rfl (QEx.subK rfl (.tmp rfl) (.tmp rfl)) rfl (lt_b rfl) ?_
        refine GoT.q rfl (QEx.fldP 0 rfl Tryz.underlying24 rfl ts3 rfl (.tmp rfl) rfl) rfl (lt_b rfl) ?_
        refine GoT.qr rfl rfl (QEx.ldP1 (Vec.cells x16) (iAV x16.X) rfl ag3 (.tmp rfl) rfl) rfl (lt_b rfl) ?_
        refine GoT.q rfl (QEx.addK rfl (.tmp rfl) (.tmp rfl)) rfl (lt_b rfl) ?_
        refine GoT.q rfl (QEx.fldP 0 rfl Tryz.underlying24 rfl ts3 rfl (.tmp rfl) rfl) rfl (lt_b rfl) ?_
        refine GoT.qr rfl rfl (QEx.ldP1 (Vec.cells x4) (iAV x4.X) rfl ag3 (.tmp rfl) rfl) rfl (lt_b rfl) ?_
        refine GoT.q rfl (QEx.subK rfl (.tmp rfl) (.tmp rfl)) rfl (lt_b rfl) ?_
        refine GoT.q rfl (QEx.move rfl (.tmp rfl)) rfl (lt_b rfl) ?_
        refine GoT.q rfl (QEx.eq (QEx.mulK rfl (.tmp rfl) (.tmp rfl)) (congrArg iAV hx18)) rfl (lt_b rfl) ?_
        refine GoT.q rfl (QEx.addK rfl (.tmp rfl) (.tmp rfl)) rfl (lt_b rfl) ?_
        refine GoT.q rfl (QEx.eq (QEx.assign rfl (.tmp rfl)) (congrArg iAV hx19)) rfl (lt_b rfl) ?_
        refine GoT.nil ?_
        refine let_e h fun x20 hx20 h => ?_
        refine let_e h fun x21 hx21 h => ?_
        refine Wp.region ?_
        refine GoT.q rfl (QEx.move rfl (.tmp rfl)) rfl (lt_b rfl) ?_
        refine GoT.q rfl (QEx.fldP 1 rfl Tryz.underlying24 rfl ts3 rfl (.tmp rfl) rfl) rfl (lt_b rfl) ?_
        refine GoT.qr rfl rfl (QEx.ldP1 (Vec.cells x15) (iAV x15.Y) rfl ag3 (.tmp rfl) rfl) rfl (lt_b rfl) ?_
        refine GoT.q rfl (QEx.fldP 1 rfl Tryz.underlying24 rfl ts3 rfl (.tmp rfl) rfl) rfl (lt_b rfl) ?_
        refine GoT.qr rfl rfl (QEx.ldP1 (Vec.cells x4) (iAV x4.Y) rfl ag3 (.tmp rfl) rfl) rfl (lt_b rfl) ?_
        refine GoT.q rfl (QEx.subK rfl (.tmp rfl) (.tmp rfl)) rfl (lt_b rfl) ?_
        refine GoT.q rfl (QEx.fldP 1 rfl Tryz.underlying24 rfl ts3 rfl (.tmp rfl) rfl) rfl (lt_b rfl) ?_
        refine GoT.qr rfl rfl (QEx.ldP1 (Vec.cells x16) (iAV x16.Y) rfl ag3 (.tmp rfl) rfl) rfl (lt_b rfl) ?_
        refine GoT.q rfl (QEx.addK rfl (.tmp rfl) (.tmp rfl)) rfl (lt_b rfl) ?_
        refine GoT.q rfl (QEx.fldP 1 rfl Tryz.underlying24 rfl ts3 rfl (.tmp rfl) rfl) rfl (lt_b rfl) ?_
        refine GoT.qr rfl rfl (QEx.ldP1 (Vec.cells x4) (iAV x4.Y) rfl ag3 (.tmp rfl) rfl) rfl (lt_b rfl) ?_
        refine GoT.q rfl (QEx.subK rfl (.tmp rfl) (.tmp rfl)) rfl (lt_b rfl) ?_
        refine GoT.q rfl (QEx.move rfl (.tmp rfl)) rfl (lt_b rfl) ?_
        refine GoT.q rfl (QEx.eq (QEx.mulK rfl (.tmp rfl) (.tmp rfl)) (congrArg iAV hx20)) rfl (lt_b rfl) ?_
        refine GoT.q rfl (QEx.addK rfl (.tmp rfl) (.tmp rfl)) rfl (lt_b rfl) ?_
        refine GoT.q rfl (QEx.eq (QEx.assign rfl (.tmp rfl)) (congrArg iAV hx21)) rfl (lt_b rfl) ?_
        refine GoT.nil ?_
        refine let_e h fun x22 hx22 h => ?_
        refine Wp.region ?_
        refine GoT.q rfl (QEx.move rfl (.tmp rfl)) rfl (lt_b rfl) ?_
        refine GoT.q rfl (QEx.addK rfl (.tmp rfl) .con) rfl (lt_b rfl) ?_
        refine GoT.q rfl (QEx.eq (QEx.assign rfl (.tmp rfl)) (congrArg iAV hx22)) rfl (lt_b rfl) ?_
        refine GoT.nil ?_
        exact Round4.mk x17 x19 x21 x22 [8, 9] [] h (LS.to.mk (.b rfl rfl (.r rfl rfl (.r rfl rfl (.b rfl rfl (.b rfl rfl (.b rfl rfl (.b rfl rfl .n))))))) (.b rfl rfl rfl (.b rfl rfl rfl .n)) rfl)
      · refine Wp.exit ?_
        exact Joined3.mk v8 v9 v10 [] [] h (LS.to.mk (.r rfl rfl (.r rfl rfl (.b rfl rfl (.b rfl rfl (.b rfl rfl .n))))) (.b rfl rfl rfl (.b rfl rfl rfl .n)) rfl)
theorem ref03_Cross_ok {a : Vec} {b : Vec} {r : Int} (h : ref03_Cross a b = some r) : FnR Tryz.prog 108 [(Vec.av a), (Vec.av b)] (iAV r) := by
  refine FnR.intro' (fn := Tryz.f108) (N := 22) Tryz.func108 rfl rfl (Nat.le_of_ble_eq_true rfl) [2, 3] ?_
  refine Wp.seq ?_
  refine Wp.region ?_
  refine GoT.a rfl (AEx.bx (Z := (Vec.cells a)) rfl (.tmp rfl) rfl rfl rfl rfl) rfl (lt_b rfl) ?_
  refine GoT.a rfl (AEx.bx (Z := (Vec.cells b)) rfl (.tmp rfl) rfl rfl rfl rfl) rfl (lt_b rfl) ?_
  refine GoT.q rfl (QEx.as (iAV 0) (QEx.assign rfl .con)) rfl (lt_b rfl) ?_
  refine GoT.nil ?_
  refine let_e h fun r1 hr1 h => ?_
  refine let_e h fun x2 hx2 h => ?_
  refine Wp.seq ?_
  refine Wp.region ?_
  refine GoT.qr rfl rfl (QEx.ldP (Vec.cells a) (Vec.av a) rfl ag24 ts24 (.tmp rfl) (le_b rfl) rfl) rfl (lt_b rfl) ?_
  refine GoT.q rfl (QEx.cal0 (r := (Vec.av r1)) [(Vec.av a)] rfl Tryz.call67 (.cons (.tmp rfl) .nil) (ref03_Saturated_ok hr1) rfl rfl) rfl (lt_b rfl) ?_
  refine GoT.s rfl (AEx.sto (Z := (Vec.cells x2)) rfl rfl ts24 (.tmp rfl) rfl (.tmp rfl) rfl rfl (le_b rfl) (congrArg (fun (x : Vec) => (Vec.cells x)) hx2)) rfl ?_
  refine GoT.nil ?_
  refine let_e h fun r3 hr3 h => ?_
  refine let_e h fun x4 hx4 h => ?_
  refine Wp.seq ?_
  refine Wp.region ?_
  refine GoT.qr rfl rfl (QEx.ldP (Vec.cells b) (Vec.av b) rfl ag24 ts24 (.tmp rfl) (le_b rfl) rfl) rfl (lt_b rfl) ?_
  refine GoT.q rfl (QEx.cal0 (r := (Vec.av r3)) [(Vec.av b)] rfl Tryz.call67 (.cons (.tmp rfl) .nil) (ref03_Saturated_ok hr3) rfl rfl) rfl (lt_b rfl) ?_
  refine GoT.s rfl (AEx.sto (Z := (Vec.cells x4)) rfl rfl ts24 (.tmp rfl) rfl (.tmp rfl) rfl rfl (le_b rfl) (congrArg (fun (x : Vec) => (Vec.cells x)) hx4)) rfl ?_
  refine GoT.nil ?_
  refine bind_e h fun r5 hr5 h => ?_
  refine let_e h fun r6 hr6 h => ?_
  refine Wp.seq ?_
  refine Wp.region ?_
  refine GoT.q rfl (QEx.fldP 0 rfl Tryz.underlying24 rfl ts3 rfl (.tmp rfl) rfl) rfl (lt_b rfl) ?_
  refine GoT.qr rfl rfl (QEx.ldP1 (Vec.cells x2) (iAV x2.X) rfl ag3 (.tmp rfl) rfl) rfl (lt_b rfl) ?_
  refine GoT.q rfl (QEx.fldP 1 rfl Tryz.underlying24 rfl ts3 rfl (.tmp rfl) rfl) rfl (lt_b rfl) ?_
  refine GoT.qr rfl rfl (QEx.ldP1 (Vec.cells x4) (iAV x4.Y) rfl ag3 (.tmp rfl) rfl) rfl (lt_b rfl) ?_
  refine GoT.q rfl (QEx.mulK rfl (.tmp rfl) (.tmp rfl)) rfl (lt_b rfl) ?_
  refine GoT.q rfl (QEx.fldP 1 rfl Tryz.underlying24 rfl ts3 rfl (.tmp rfl) rfl) rfl (lt_b rfl) ?_
  refine GoT.qr rfl rfl (QEx.ldP1 (Vec.cells x2) (iAV x2.Y) rfl ag3 (.tmp rfl) rfl) rfl (lt_b rfl) ?_
  refine GoT.q rfl (QEx.fldP 0 rfl Tryz.underlying24 rfl ts3 rfl (.tmp rfl) rfl) rfl (lt_b rfl) ?_
  refine GoT.qr rfl rfl (QEx.ldP1 (Vec.cells x4) (iAV x4.X) rfl ag3 (.tmp rfl) rfl) rfl (lt_b rfl) ?_
  refine GoT.q rfl (QEx.mulK rfl (.tmp rfl) (.tmp rfl)) rfl (lt_b rfl) ?_
  refine GoT.q rfl (QEx.subK rfl (.tmp rfl) (.tmp rfl)) rfl (lt_b rfl) ?_
  refine GoT.q rfl (QEx.cal0 (r := (iAV r5)) [(iAV (w64 ((w64 (x2.X * x4.Y)) - (w64 (x2.Y * x4.X))))), (iAV 65536)] rfl Tryz.call44 (.cons (.tmp rfl) (.cons .con .nil)) (ref01_RoundDiv_ok hr5) rfl rfl) rfl (lt_b rfl) ?_
  refine GoT.q rfl (QEx.cal0 (r := (iAV r6)) [(iAV r5)] rfl Tryz.call43 (.cons (.tmp rfl) .nil) (ref01_Saturate_ok hr6) rfl rfl) rfl (lt_b rfl) ?_
  refine GoT.q rfl (QEx.assign rfl (.tmp rfl)) rfl (lt_b rfl) ?_
  refine GoT.nil ?_
  refine Wp.ret ?_
  cases h
  exact LeafQ.ret [] (by decide) (.cons (.tmp rfl) .nil) rfl
theorem ref03_Dot_ok {a : Vec} {b : Vec} {r : Int} (h : ref03_Dot a b = some r) : FnR Tryz.prog 89 [(Vec.av a), (Vec.av b)] (iAV r) := by
  refine FnR.intro' (fn := Tryz.f89) (N := 22) Tryz.func89 rfl rfl (Nat.le_of_ble_eq_true rfl) [2, 3] ?_
  refine Wp.seq ?_
  refine Wp.region ?_
  refine GoT.a rfl (AEx.bx (Z := (Vec.cells a)) rfl (.tmp rfl) rfl rfl rfl rfl) rfl (lt_b rfl) ?_
  refine GoT.a rfl (AEx.bx (Z := (Vec.cells b)) rfl (.tmp rfl) rfl rfl rfl rfl) rfl (lt_b rfl) ?_
  refine GoT.q rfl (QEx.as (iAV 0) (QEx.assign rfl .con)) rfl (lt_b rfl) ?_
  refine GoT.nil ?_
  refine let_e h fun r1 hr1 h => ?_
  refine let_e h fun x2 hx2 h => ?_
  refine Wp.seq ?_
  refine Wp.region ?_
  refine GoT.qr rfl rfl (QEx.ldP (Vec.cells a) (Vec.av a) rfl ag24 ts24 (.tmp rfl) (le_b rfl) rfl) rfl (lt_b rfl) ?_
  refine GoT.q rfl (QEx.cal0 (r := (Vec.av r1)) [(Vec.av a)] rfl Tryz.call67 (.cons (.tmp rfl) .nil) (ref03_Saturated_ok hr1) rfl rfl) rfl (lt_b rfl) ?_
  refine GoT.s rfl (AEx.sto (Z := (Vec.cells x2)) rfl rfl ts24 (.tmp rfl) rfl (.tmp rfl) rfl rfl (le_b rfl) (congrArg (fun (x : Vec) => (Vec.cells x)) hx2)) rfl ?_
  refine GoT.nil ?_
  refine let_e h fun r3 hr3 h => ?_
  refine let_e h fun x4 hx4 h => ?_
  refine Wp.seq ?_
  refine Wp.region ?_
  refine GoT.qr rfl rfl (QEx.ldP (Vec.cells b) (Vec.av b) rfl ag24 ts24 (.tmp rfl) (le_b rfl) rfl) rfl (lt_b rfl) ?_
  refine GoT.q rfl (QEx.cal0 (r := (Vec.av r3)) [(Vec.av b)] rfl Tryz.call67 (.cons (.tmp rfl) .nil) (ref03_Saturated_ok hr3) rfl rfl) rfl (lt_b rfl) ?_
  refine GoT.s rfl (AEx.sto (Z := (Vec.cells x4)) rfl rfl ts24 (.tmp rfl) rfl (.tmp rfl) rfl rfl (le_b rfl) (congrArg (fun (x : Vec) => (Vec.cells x)) hx4)) rfl ?_
  refine GoT.nil ?_
  refine bind_e h fun r5 hr5 h => ?_
  refine let_e h fun r6 hr6 h => ?_
  refine Wp.seq ?_
  refine Wp.region ?_
  refine GoT.q rfl (QEx.fldP 0 rfl Tryz.underlying24 rfl ts3 rfl (.tmp rfl) rfl) rfl (lt_b rfl) ?_
  refine GoT.qr rfl rfl (QEx.ldP1 (Vec.cells x2) (iAV x2.X) rfl ag3 (.tmp rfl) rfl) rfl (lt_b rfl) ?_
  refine GoT.q rfl (QEx.fldP 0 rfl Tryz.underlying24 rfl ts3 rfl (.tmp rfl) rfl) rfl (lt_b rfl) ?_
  refine GoT.qr rfl rfl (QEx.ldP1 (Vec.cells x4) (iAV x4.X) rfl ag3 (.tmp rfl) rfl) rfl (lt_b rfl) ?_
  refine GoT.q rfl (QEx.mulK rfl (.tmp rfl) (.tmp rfl)) rfl (lt_b rfl) ?_
  refine GoT.q rfl (QEx.fldP 1 rfl Tryz.underlying24 rfl ts3 rfl (.tmp rfl) rfl) rfl (lt_b rfl) ?_
  refine GoT.qr rfl rfl (QEx.ldP1 (Vec.cells x2) (iAV x2.Y) rfl ag3 (.tmp rfl) rfl) rfl (lt_b rfl) ?_
  refine GoT.q rfl (QEx.fldP 1 rfl Tryz.underlying24 rfl ts3 rfl (.tmp rfl) rfl) rfl (lt_b rfl) ?_
  refine GoT.qr rfl rfl (QEx.ldP1 (Vec.cells x4) (iAV x4.Y) rfl ag3 (.tmp rfl) rfl) rfl (lt_b rfl) ?_
  refine GoT.q rfl (QEx.mulK rfl (.tmp rfl) (.tmp rfl)) rfl (lt_b rfl) ?_
  refine GoT.q rfl (QEx.addK rfl (.tmp rfl) (.tmp rfl)) rfl (lt_b rfl) ?_
  refine GoT.q rfl (QEx.cal0 (r := (iAV r5)) [(iAV (w64 ((w64 (x2.X * x4.X)) + (w64 (x2.Y * x4.Y))))), (iAV 65536)] rfl Tryz.call44 (.cons (.tmp rfl) (.cons .con .nil)) (ref01_RoundDiv_ok hr5) rfl rfl) rfl (lt_b rfl) ?_
  refine GoT.q rfl (QEx.cal0 (r := (iAV r6)) [(iAV r5)] rfl Tryz.call43 (.cons (.tmp rfl) .nil) (ref01_Saturate_ok hr6) rfl rfl) rfl (lt_b rfl) ?_
  refine GoT.q rfl (QEx.assign rfl (.tmp rfl)) rfl (lt_b rfl) ?_
  refine GoT.nil ?_
  refine Wp.ret ?_
  cases h
  exact LeafQ.ret [] (by decide) (.cons (.tmp rfl) .nil) rfl
theorem ref13_polygonInertia_ok {pts : List Vec} {c_1 : Vec} {m : Int} {r : Int} (h : ref13_polygonInertia pts c_1 m = some r) : FnR Tryz.prog 88 [((slAV 2 Vec.av) pts), (Vec.av c_1), (iAV m)] (iAV r) := by
  refine FnR.intro' (fn := Tryz.f88) (N := 64) Tryz.func88 rfl rfl (Nat.le_of_ble_eq_true rfl) [4, 10, 11, 14, 19, 25, 28] ?_
  refine Wp.seq ?_
  refine Wp.region ?_
  refine GoT.a rfl (AEx.bx (Z := (Vec.cells c_1)) rfl (.tmp rfl) rfl rfl rfl rfl) rfl (lt_b rfl) ?_
  refine GoT.q rfl (QEx.as (iAV 0) (QEx.assign rfl .con)) rfl (lt_b rfl) ?_
  refine GoT.nil ?_
  refine Wp.seq ?_
  refine Wp.region ?_
  refine GoT.q rfl (QEx.as (iAV 0) (QEx.assign rfl .con)) rfl (lt_b rfl) ?_
  refine GoT.q rfl (QEx.as (iAV 0) (QEx.assign rfl .con)) rfl (lt_b rfl) ?_
  refine GoT.nil ?_
  refine Wp.join2 (fun v1 v2 => ⟨[(2, (iAV m)), (7, (iAV v1)), (8, (iAV v2))], [], [4, 10, 11, 14, 19, 25, 28]⟩) (fun v1 v2 => (ref13_polygonInertia_j2 m) v1 v2 = some r) ?_ ?_
  · intro v1 v2 h
    refine Wp.seq ?_
    refine Wp.seq ?_
    refine Wp.region ?_
    refine GoT.q rfl (QEx.move rfl (.tmp rfl)) rfl (lt_b rfl) ?_
    refine GoT.q rfl (QEx.lssK rfl (.tmp rfl) .con) rfl (lt_b rfl) ?_
    refine GoT.nil ?_
    refine Wp.condS h rfl (fun h => ?_) (fun h => ?_)
    · refine Wp.seq ?_
      refine Wp.region ?_
      refine GoT.q rfl (QEx.as (iAV 0) (QEx.assign rfl .con)) rfl (lt_b rfl) ?_
      refine GoT.nil ?_
      refine Wp.ret ?_
      cases h
      exact LeafQ.ret [] (by decide) (.cons (.tmp rfl) .nil) rfl
    · refine Wp.skip ?_
      refine bind_e h fun r20 hr20 h => ?_
      refine bind_e h fun r21 hr21 h => ?_
      refine bind_e h fun r22 hr22 h => ?_
      refine Wp.seq ?_
      refine Wp.region ?_
      refine GoT.q rfl (QEx.move rfl (.tmp rfl)) rfl (lt_b rfl) ?_
      refine GoT.q rfl (QEx.move rfl (.tmp rfl)) rfl (lt_b rfl) ?_
      refine GoT.q rfl (QEx.move rfl (.tmp rfl)) rfl (lt_b rfl) ?_
      refine GoT.q rfl (QEx.cal0 (r := (iAV r20)) [(iAV v1), (iAV v2)] rfl Tryz.call44 (.cons (.tmp rfl) (.cons (.tmp rfl) .nil)) (ref01_RoundDiv_ok hr20) rfl rfl) rfl (lt_b rfl) ?_
      refine GoT.q rfl (QEx.cal0 (r := (iAV r21)) [(iAV r20), (iAV 6)] rfl Tryz.call44 (.cons (.tmp rfl) (.cons .con .nil)) (ref01_RoundDiv_ok hr21) rfl rfl) rfl (lt_b rfl) ?_
      refine GoT.q rfl (QEx.cal0 (r := (iAV r22)) [(iAV m), (iAV r21)] rfl Tryz.call27 (.cons (.tmp rfl) (.cons (.tmp rfl) .nil)) (ref01_Mul_ok hr22) rfl rfl) rfl (lt_b rfl) ?_
      refine GoT.q rfl (QEx.assign rfl (.tmp rfl)) rfl (lt_b rfl) ?_
      refine GoT.nil ?_
      refine Wp.ret ?_
      cases h
      exact LeafQ.ret [] (by decide) (.cons (.tmp rfl) .nil) rfl
  · refine Wp.seq ?_
    refine Wp.region ?_
    refine GoT.q rfl (QEx.as (iAV 0) (QEx.assign rfl .con)) rfl (lt_b rfl) ?_
    refine GoT.nil ?_
    refine Wp.block ?_
    refine Wp.loop3 (fun v3 v4 v5 => ⟨[(0, ((slAV 2 Vec.av) pts)), (2, (iAV m)), (4, (.ptr 4 0)), (7, (iAV v3)), (8, (iAV v4)), (9, (iAV v5))], [(4, .cells (Vec.cells c_1))], [10, 11, 14, 19, 25, 28]⟩) (fun n v3 v4 v5 => ref13_polygonInertia_l1 pts c_1 (ref13_polygonInertia_j2 m) n v3 v4 v5 = some r) fuel 0 0 0 [] [] h (LS.to.mk (.b rfl rfl (.b rfl rfl (.r rfl rfl (.b rfl rfl (.b rfl rfl (.b rfl rfl .n)))))) (.b rfl rfl rfl .n) rfl) ?_
    rintro (_ | n2) v3 v4 v5 h
    · exact none_e h
    rw [ref13_polygonInertia_l1] at h
    refine Wp.seq ?_
    refine Wp.seq ?_
    refine Wp.region ?_
    refine GoT.q rfl (QEx.move rfl (.tmp rfl)) rfl (lt_b rfl) ?_
    refine GoT.q rfl (QEx.move rfl (.tmp rfl)) rfl (lt_b rfl) ?_
    refine GoT.q rfl (QEx.lenL rfl ⟨_, Tryz.underlying40⟩ (.tmp rfl)) rfl (lt_b rfl) ?_
    refine GoT.q rfl (QEx.lssK rfl (.tmp rfl) (.tmp rfl)) rfl (lt_b rfl) ?_
    refine GoT.nil ?_
    refine Wp.condS h rfl (fun h => ?_) (fun h => ?_)
    · refine Wp.skip ?_
      refine Wp.seq ?_
      refine Wp.block ?_
      refine chk_e h fun c6 h => ?_
      refine let_e h fun r7 hr7 h => ?_
      refine let_e h fun x8 hx8 h => ?_
      refine Wp.seq ?_
      refine Wp.drawn2 (n0 := 8) [11, 14, 19, 25, 28] mixed ?_
      refine GoD.q rfl (QEx.move rfl (.tmp rfl)) rfl (lt_b rfl) ?_
      refine GoD.q rfl (QEx.move rfl (.tmp rfl)) rfl (lt_b rfl) ?_
      refine GoD.q rfl (QEx.as (.cptr (Vec.cells (ix pts v5))) (QEx.idxL (E := Vec.av) rfl et40 (.tmp rfl) (.tmp rfl) c6)) rfl (lt_b rfl) ?_
      refine GoD.q rfl (QEx.ldC (x := (Vec.av (ix pts v5))) rfl ag24 ts24 (.tmp rfl) (.inl ⟨rfl, rfl, rfl⟩)) rfl (lt_b rfl) ?_
      refine GoD.qr rfl rfl (QEx.ldP (Vec.cells c_1) (Vec.av c_1) rfl ag24 ts24 (.tmp rfl) (le_b rfl) rfl) rfl (lt_b rfl) ?_
      refine GoD.q rfl (QEx.cal0 (r := (Vec.av r7)) [(Vec.av (ix pts v5)), (Vec.av c_1)] rfl Tryz.call26 (.cons (.tmp rfl) (.cons (.tmp rfl) .nil)) (ref03_Sub_ok hr7) rfl rfl) rfl (lt_b rfl) ?_
      refine GoD.al rfl rfl zt24 rfl (lt_b rfl) ?_
      refine GoD.s rfl (Z := (Vec.cells x8)) rfl rfl ts24 (.tmp rfl) rfl (.tmp rfl) rfl rfl (le_b rfl) (congrArg (fun (x : Vec) => (Vec.cells x)) hx8) ?_
      refine GoD.nil ⟨by kernel_rfl, by kernel_rfl, by kernel_rfl, by kernel_rfl, by kernel_rfl, ?_⟩
      refine GoT.nil ?_
      refine chk_e h fun c9 h => ?_
      refine chk_e h fun c10 h => ?_
      refine let_e h fun r11 hr11 h => ?_
      refine let_e h fun x12 hx12 h => ?_
      refine Wp.seq ?_
      refine Wp.drawn2 (n0 := 12) [14, 19, 25, 28] mixed ?_
      refine GoD.q rfl (QEx.move rfl (.tmp rfl)) rfl (lt_b rfl) ?_
      refine GoD.q rfl (QEx.move rfl (.tmp rfl)) rfl (lt_b rfl) ?_
      refine GoD.q rfl (QEx.addK rfl (.tmp rfl) .con) rfl (lt_b rfl) ?_
      refine GoD.q rfl (QEx.move rfl (.tmp rfl)) rfl (lt_b rfl) ?_
      refine GoD.q rfl (QEx.lenL rfl ⟨_, Tryz.underlying40⟩ (.tmp rfl)) rfl (lt_b rfl) ?_
      refine GoD.q rfl (QEx.remK rfl (.tmp rfl) (.tmp rfl) c9) rfl (lt_b rfl) ?_
      refine GoD.q rfl (QEx.as (.cptr (Vec.cells (ix pts (Int.tmod (w64 (v5 + 1)) ((pts).length : Int))))) (QEx.idxL (E := Vec.av) rfl et40 (.tmp rfl) (.tmp rfl) c10)) rfl (lt_b rfl) ?_
      refine GoD.q rfl (QEx.ldC (x := (Vec.av (ix pts (Int.tmod (w64 (v5 + 1)) ((pts).length : Int))))) rfl ag24 ts24 (.tmp rfl) (.inl ⟨rfl, rfl, rfl⟩)) rfl (lt_b rfl) ?_
      refine GoD.qr rfl rfl (QEx.ldP (Vec.cells c_1) (Vec.av c_1) rfl ag24 ts24 (.tmp rfl) (le_b rfl) rfl) rfl (lt_b rfl) ?_
      refine GoD.q rfl (QEx.cal0 (r := (Vec.av r11)) [(Vec.av (ix pts (Int.tmod (w64 (v5 + 1)) ((pts).length : Int)))), (Vec.av c_1)] rfl Tryz.call26 (.cons (.tmp rfl) (.cons (.tmp rfl) .nil)) (ref03_Sub_ok hr11) rfl rfl) rfl (lt_b rfl) ?_
      refine GoD.al rfl rfl zt24 rfl (lt_b rfl) ?_
      refine GoD.s rfl (Z := (Vec.cells x12)) rfl rfl ts24 (.tmp rfl) rfl (.tmp rfl) rfl rfl (le_b rfl) (congrArg (fun (x : Vec) => (Vec.cells x)) hx12) ?_
      refine GoD.nil ⟨by kernel_rfl, by kernel_rfl, by kernel_rfl, by kernel_rfl, by kernel_rfl, ?_⟩
      refine GoT.nil ?_
      refine bind_e h fun r13 hr13 h => ?_
      refine Wp.seq ?_
      refine Wp.region ?_
      refine GoT.qr rfl rfl (QEx.ldP (Vec.cells x8) (Vec.av x8) rfl ag24 ts24 (.tmp rfl) (le_b rfl) rfl) rfl (lt_b rfl) ?_
      refine GoT.qr rfl rfl (QEx.ldP (Vec.cells x12) (Vec.av x12) rfl ag24 ts24 (.tmp rfl) (le_b rfl) rfl) rfl (lt_b rfl) ?_
      refine GoT.q rfl (QEx.cal0 (r := (iAV r13)) [(Vec.av x8), (Vec.av x12)] rfl Tryz.call108 (.cons (.tmp rfl) (.cons (.tmp rfl) .nil)) (ref03_Cross_ok hr13) rfl rfl) rfl (lt_b rfl) ?_
      refine GoT.q rfl (QEx.assign rfl (.tmp rfl)) rfl (lt_b rfl) ?_
      refine GoT.nil ?_
      refine let_e h fun x14 hx14 h => ?_
      refine Wp.seq ?_
      refine Wp.region ?_
      refine GoT.q rfl (QEx.move rfl (.tmp rfl)) rfl (lt_b rfl) ?_
      refine GoT.q rfl (QEx.move rfl (.tmp rfl)) rfl (lt_b rfl) ?_
      refine GoT.q rfl (QEx.addK rfl (.tmp rfl) (.tmp rfl)) rfl (lt_b rfl) ?_
      refine GoT.q rfl (QEx.eq (QEx.assign rfl (.tmp rfl)) (congrArg iAV hx14)) rfl (lt_b rfl) ?_
      refine GoT.nil ?_
      refine bind_e h fun r15 hr15 h => ?_
      refine bind_e h fun r16 hr16 h => ?_
      refine bind_e h fun r17 hr17 h => ?_
      refine let_e h fun x18 hx18 h => ?_
      refine Wp.drawn2 (n0 := 16) [14, 19, 25, 28] mixed ?_
      refine GoD.q rfl (QEx.move rfl (.tmp rfl)) rfl (lt_b rfl) ?_
      refine GoD.q rfl (QEx.move rfl (.tmp rfl)) rfl (lt_b rfl) ?_
      refine GoD.qr rfl rfl (QEx.ldP (Vec.cells x8) (Vec.av x8) rfl ag24 ts24 (.tmp rfl) (le_b rfl) rfl) rfl (lt_b rfl) ?_
      refine GoD.qr rfl rfl (QEx.ldP (Vec.cells x8) (Vec.av x8) rfl ag24 ts24 (.tmp rfl) (le_b rfl) rfl) rfl (lt_b rfl) ?_
      refine GoD.q rfl (QEx.cal0 (r := (iAV r15)) [(Vec.av x8), (Vec.av x8)] rfl Tryz.call89 (.cons (.tmp rfl) (.cons (.tmp rfl) .nil)) (ref03_Dot_ok hr15) rfl rfl) rfl (lt_b rfl) ?_
      refine GoD.qr rfl rfl (QEx.ldP (Vec.cells x8) (Vec.av x8) rfl ag24 ts24 (.tmp rfl) (le_b rfl) rfl) rfl (lt_b rfl) ?_
      refine GoD.qr rfl rfl (QEx.ldP (Vec.cells x12) (Vec.av x12) rfl ag24 ts24 (.tmp rfl) (le_b rfl) rfl) rfl (lt_b rfl) ?_
      refine GoD.q rfl (QEx.cal0 (r := (iAV r16)) [(Vec.av x8), (Vec.av x12)] rfl Tryz.call89 (.cons (.tmp rfl) (.cons (.tmp rfl) .nil)) (ref03_Dot_ok hr16) rfl rfl) rfl (lt_b rfl) ?_
      refine GoD.q rfl (QEx.addK rfl (.tmp rfl) (.tmp rfl)) rfl (lt_b rfl) ?_
      refine GoD.qr rfl rfl (QEx.ldP (Vec.cells x12) (Vec.av x12) rfl ag24 ts24 (.tmp rfl) (le_b rfl) rfl) rfl (lt_b rfl) ?_
      refine GoD.qr rfl rfl (QEx.ldP (Vec.cells x12) (Vec.av x12) rfl ag24 ts24 (.tmp rfl) (le_b rfl) rfl) rfl (lt_b rfl) ?_
      refine GoD.q rfl (QEx.cal0 (r := (iAV r17)) [(Vec.av x12), (Vec.av x12)] rfl Tryz.call89 (.cons (.tmp rfl) (.cons (.tmp rfl) .nil)) (ref03_Dot_ok hr17) rfl rfl) rfl (lt_b rfl) ?_
      refine GoD.q rfl (QEx.addK rfl (.tmp rfl) (.tmp rfl)) rfl (lt_b rfl) ?_
      refine GoD.q rfl (QEx.mulK rfl (.tmp rfl) (.tmp rfl)) rfl (lt_b rfl) ?_
      refine GoD.q rfl (QEx.addK rfl (.tmp rfl) (.tmp rfl)) rfl (lt_b rfl) ?_
      refine GoD.q rfl (QEx.eq (QEx.assign rfl (.tmp rfl)) (congrArg iAV hx18)) rfl (lt_b rfl) ?_
      refine GoD.nil ⟨by kernel_rfl, by kernel_rfl, by kernel_rfl, by kernel_rfl, by kernel_rfl, ?_⟩
      refine GoT.nil ?_
      refine let_e h fun x19 hx19 h => ?_
      refine Wp.region ?_
      refine GoT.q rfl (QEx.move rfl (.tmp rfl)) rfl (lt_b rfl) ?_
      refine GoT.q rfl (QEx.addK rfl (.tmp rfl) .con) rfl (lt_b rfl) ?_
      refine GoT.q rfl (QEx.eq (QEx.assign rfl (.tmp rfl)) (congrArg iAV hx19)) rfl (lt_b rfl) ?_
      refine GoT.nil ?_
      exact Round3.mk x18 x14 x19 [10, 11] [] h (LS.to.mk (.b rfl rfl (.b rfl rfl (.r rfl rfl (.b rfl rfl (.b rfl rfl (.b rfl rfl .n)))))) (.b rfl rfl rfl .n) rfl)
    · refine Wp.exit ?_
      exact Joined2.mk v3 v4 [4] [] h (LS.to.mk (.b rfl rfl (.b rfl rfl (.b rfl rfl .n))) .n rfl)
theorem ref13_OfShape_ok {s : Shape} {density : Int} {r : MassData} (h : ref13_OfShape s density = some r) : FnR Tryz.prog 71 [(Shape.av s), (iAV density)] (MassData.av r) := by
  refine FnR.intro' (fn := Tryz.f71) (N := 107) Tryz.func71 rfl rfl (Nat.le_of_ble_eq_true rfl) [2, 4, 11] ?_
  refine Wp.seq ?_
  refine Wp.region ?_
  refine GoT.a rfl (AEx.bx (Z := (Shape.cells s)) rfl (.tmp rfl) rfl rfl rfl rfl) rfl (lt_b rfl) ?_
  refine GoT.a rfl (AEx.alZ rfl zt54 rfl rfl) rfl (lt_b rfl) ?_
  refine GoT.nil ?_
  refine Wp.seq ?_
  refine bind_e h fun r1 hr1 h => ?_
  refine Wp.seq ?_
  refine Wp.region ?_
  refine GoT.qr rfl rfl (QEx.ldP (Shape.cells s) (Shape.av s) rfl ag42 ts42 (.tmp rfl) (le_b rfl) rfl) rfl (lt_b rfl) ?_
  refine GoT.q rfl (QEx.cal0 (r := (iAV r1)) [(Shape.av s)] rfl Tryz.call83 (.cons (.tmp rfl) .nil) (ref12_Validate_ok hr1) rfl rfl) rfl (lt_b rfl) ?_
  refine GoT.q rfl (QEx.neqK rfl (.tmp rfl) .con) rfl (lt_b rfl) ?_
  refine GoT.q rfl (QEx.move rfl (.tmp rfl)) rfl (lt_b rfl) ?_
  refine GoT.g rfl rfl rfl (fun hg => QEx.move rfl (.tmp rfl)) rfl (lt_b rfl) ?_
  refine GoT.g rfl rfl rfl (fun hg => QEx.lssK rfl (.opt (.tmp rfl) hg) .con) rfl (lt_b rfl) ?_
  refine GoT.q rfl (QEx.pickK rfl (.tmp rfl) (fun hp => .con) (fun hp => (.opt (.tmp rfl) (beq_f hp)))) rfl (lt_b rfl) ?_
  refine GoT.q rfl (QEx.move rfl (.tmp rfl)) rfl (lt_b rfl) ?_
  refine GoT.g rfl rfl rfl (fun hg => QEx.move rfl (.tmp rfl)) rfl (lt_b rfl) ?_
  refine GoT.g rfl rfl rfl (fun hg => QEx.gtrK rfl (.opt (.tmp rfl) hg) .con) rfl (lt_b rfl) ?_
  refine GoT.q rfl (QEx.pickK rfl (.tmp rfl) (fun hp => .con) (fun hp => (.opt (.tmp rfl) (beq_f hp)))) rfl (lt_b rfl) ?_
  refine GoT.nil ?_
  refine Wp.condS h rfl (fun h => ?_) (fun h => ?_)
  · refine let_e h fun x2 hx2 h => ?_
    refine Wp.seq ?_
    refine Wp.region ?_
    refine GoT.q rfl (QEx.as (MassData.av (⟨0, Vec.zero, 0⟩ : MassData)) (QEx.buildZ rfl Tryz.underlying54 zt54 (by kernel_rfl) .nil)) rfl (lt_b rfl) ?_
    refine GoT.s rfl (AEx.sto (Z := (MassData.cells x2)) rfl rfl ts54 (.tmp rfl) rfl (.tmp rfl) rfl rfl (le_b rfl) (congrArg (fun (x : MassData) => (MassData.cells x)) hx2)) rfl ?_
    refine GoT.nil ?_
    refine Wp.ret ?_
    cases h
    exact LeafQ.ret [] (by decide) (.cons (.agg rfl rfl ag54 ts54) .nil) rfl
  · refine Wp.skip ?_
    refine bind_e h fun r3 hr3 h => ?_
    refine Wp.seq ?_
    refine Wp.region ?_
    refine GoT.q rfl (QEx.fldP 1 rfl Tryz.underlying42 rfl ts3 rfl (.tmp rfl) rfl) rfl (lt_b rfl) ?_
    refine GoT.qr rfl rfl (QEx.ldP1 (Shape.cells s) (iAV s.Radius) rfl ag3 (.tmp rfl) rfl) rfl (lt_b rfl) ?_
    refine GoT.q rfl (QEx.fldP 1 rfl Tryz.underlying42 rfl ts3 rfl (.tmp rfl) rfl) rfl (lt_b rfl) ?_
    refine GoT.qr rfl rfl (QEx.ldP1 (Shape.cells s) (iAV s.Radius) rfl ag3 (.tmp rfl) rfl) rfl (lt_b rfl) ?_
    refine GoT.q rfl (QEx.cal0 (r := (iAV r3)) [(iAV s.Radius), (iAV s.Radius)] rfl Tryz.call27 (.cons (.tmp rfl) (.cons (.tmp rfl) .nil)) (ref01_Mul_ok hr3) rfl rfl) rfl (lt_b rfl) ?_
    refine GoT.q rfl (QEx.assign rfl (.tmp rfl)) rfl (lt_b rfl) ?_
    refine GoT.nil ?_
    refine bind_e h fun r4 hr4 h => ?_
    refine Wp.seq ?_
    refine Wp.region ?_
    refine GoT.q rfl (QEx.move rfl (.tmp rfl)) rfl (lt_b rfl) ?_
    refine GoT.q rfl (QEx.cal0 (r := (iAV r4)) [(iAV 205888), (iAV r3)] rfl Tryz.call27 (.cons .con (.cons (.tmp rfl) .nil)) (ref01_Mul_ok hr4) rfl rfl) rfl (lt_b rfl) ?_
    refine GoT.q rfl (QEx.assign rfl (.tmp rfl)) rfl (lt_b rfl) ?_
    refine GoT.nil ?_
    refine Wp.seq ?_
    refine Wp.seq ?_
    refine Wp.region ?_
    refine GoT.q rfl (QEx.fldP 0 rfl Tryz.underlying42 rfl ts39 rfl (.tmp rfl) rfl) rfl (lt_b rfl) ?_
    refine GoT.qr rfl rfl (QEx.ldP1 (Shape.cells s) (iAV s.Kind) rfl ag39 (.tmp rfl) rfl) rfl (lt_b rfl) ?_
    refine GoT.nil ?_
    refine Wp.block ?_
    refine let_e h fun x5 hx5 h => ?_
    refine Wp.seq ?_
    refine Wp.region ?_
    refine GoT.q rfl (QEx.eqlK rfl (.tmp rfl) .con) rfl (lt_b rfl) ?_
    refine GoT.q rfl (QEx.eq (QEx.assign rfl (.tmp rfl)) (congrArg boolAV hx5)) rfl (lt_b rfl) ?_
    refine GoT.nil ?_
    refine Wp.condS h rfl (fun h => ?_) (fun h => ?_)
    · refine bind_e h fun r6 hr6 h => ?_
      refine Wp.seq ?_
      refine Wp.region ?_
      refine GoT.q rfl (QEx.move rfl (.tmp rfl)) rfl (lt_b rfl) ?_
      refine GoT.q rfl (QEx.move rfl (.tmp rfl)) rfl (lt_b rfl) ?_
      refine GoT.q rfl (QEx.cal0 (r := (iAV r6)) [(iAV r4), (iAV density)] rfl Tryz.call27 (.cons (.tmp rfl) (.cons (.tmp rfl) .nil)) (ref01_Mul_ok hr6) rfl rfl) rfl (lt_b rfl) ?_
      refine GoT.q rfl (QEx.assign rfl (.tmp rfl)) rfl (lt_b rfl) ?_
      refine GoT.nil ?_
      refine chk_e h fun c7 h => ?_
      refine bind_e h fun r8 hr8 h => ?_
      refine bind_e h fun r9 hr9 h => ?_
      refine let_e h fun x10 hx10 h => ?_
      refine Wp.seq ?_
      refine Wp.drawn2 (n0 := 11) [11] mixed ?_
      refine GoD.q rfl (QEx.move rfl (.tmp rfl)) rfl (lt_b rfl) ?_
      refine GoD.q rfl (QEx.fldP 2 rfl Tryz.underlying42 rfl ts40 rfl (.tmp rfl) rfl) rfl (lt_b rfl) ?_
      refine GoD.qr rfl rfl (QEx.ldP1 (Shape.cells s) ((slAV 2 Vec.av) s.Vertices) rfl ag40 (.tmp rfl) rfl) rfl (lt_b rfl) ?_
      refine GoD.q rfl (QEx.as (.cptr (Vec.cells (ix s.Vertices 0))) (QEx.idxL (E := Vec.av) rfl et40 (.tmp rfl) .con c7)) rfl (lt_b rfl) ?_
      refine GoD.q rfl (QEx.ldC (x := (Vec.av (ix s.Vertices 0))) rfl ag24 ts24 (.tmp rfl) (.inl ⟨rfl, rfl, rfl⟩)) rfl (lt_b rfl) ?_
      refine GoD.q rfl (QEx.move rfl (.tmp rfl)) rfl (lt_b rfl) ?_
      refine GoD.q rfl (QEx.move rfl (.tmp rfl)) rfl (lt_b rfl) ?_
      refine GoD.q rfl (QEx.cal0 (r := (iAV r8)) [(iAV r3), (iAV 2)] rfl Tryz.call44 (.cons (.tmp rfl) (.cons .con .nil)) (ref01_RoundDiv_ok hr8) rfl rfl) rfl (lt_b rfl) ?_
      refine GoD.q rfl (QEx.cal0 (r := (iAV r9)) [(iAV r6), (iAV r8)] rfl Tryz.call27 (.cons (.tmp rfl) (.cons (.tmp rfl) .nil)) (ref01_Mul_ok hr9) rfl rfl) rfl (lt_b rfl) ?_
      refine GoD.q rfl (QEx.as (MassData.av (⟨r6, (ix s.Vertices 0), r9⟩ : MassData)) (QEx.buildZ rfl Tryz.underlying54 zt54 (by kernel_rfl) (.cons rfl (.tmp rfl) rfl rfl (le_b rfl) (.cons rfl (.tmp rfl) rfl rfl (le_b rfl) (.cons rfl (.tmp rfl) rfl rfl (le_b rfl) .nil))))) rfl (lt_b rfl) ?_
      refine GoD.s rfl (Z := (MassData.cells x10)) rfl rfl ts54 (.tmp rfl) rfl (.tmp rfl) rfl rfl (le_b rfl) (congrArg (fun (x : MassData) => (MassData.cells x)) hx10) ?_
      refine GoD.nil ⟨by kernel_rfl, by kernel_rfl, by kernel_rfl, by kernel_rfl, by kernel_rfl, ?_⟩
      refine GoT.nil ?_
      refine Wp.ret ?_
      cases h
      exact LeafQ.ret [] (by decide) (.cons (.agg rfl rfl ag54 ts54) .nil) rfl
    · refine let_e h fun x11 hx11 h => ?_
      refine Wp.seq ?_
      refine Wp.region ?_
      refine GoT.q rfl (QEx.eqlK rfl (.tmp rfl) .con) rfl (lt_b rfl) ?_
      refine GoT.q rfl (QEx.eq (QEx.assign rfl (.tmp rfl)) (congrArg boolAV hx11)) rfl (lt_b rfl) ?_
      refine GoT.nil ?_
      refine Wp.condS h rfl (fun h => ?_) (fun h => ?_)
      · refine chk_e h fun c12 h => ?_
        refine chk_e h fun c13 h => ?_
        refine let_e h fun r14 hr14 h => ?_
        refine bind_e h fun r15 hr15 h => ?_
        refine Wp.seq ?_
        refine Wp.drawn2 (n0 := 11) [11] mixed ?_
        refine GoD.q rfl (QEx.fldP 2 rfl Tryz.underlying42 rfl ts40 rfl (.tmp rfl) rfl) rfl (lt_b rfl) ?_
        refine GoD.qr rfl rfl (QEx.ldP1 (Shape.cells s) ((slAV 2 Vec.av) s.Vertices) rfl ag40 (.tmp rfl) rfl) rfl (lt_b rfl) ?_
        refine GoD.q rfl (QEx.as (.cptr (Vec.cells (ix s.Vertices 1))) (QEx.idxL (E := Vec.av) rfl et40 (.tmp rfl) .con c12)) rfl (lt_b rfl) ?_
        refine GoD.q rfl (QEx.ldC (x := (Vec.av (ix s.Vertices 1))) rfl ag24 ts24 (.tmp rfl) (.inl ⟨rfl, rfl, rfl⟩)) rfl (lt_b rfl) ?_
        refine GoD.q rfl (QEx.fldP 2 rfl Tryz.underlying42 rfl ts40 rfl (.tmp rfl) rfl) rfl (lt_b rfl) ?_
        refine GoD.qr rfl rfl (QEx.ldP1 (Shape.cells s) ((slAV 2 Vec.av) s.Vertices) rfl ag40 (.tmp rfl) rfl) rfl (lt_b rfl) ?_
        refine GoD.q rfl (QEx.as (.cptr (Vec.cells (ix s.Vertices 0))) (QEx.idxL (E := Vec.av) rfl et40 (.tmp rfl) .con c13)) rfl (lt_b rfl) ?_
        refine GoD.q rfl (QEx.ldC (x := (Vec.av (ix s.Vertices 0))) rfl ag24 ts24 (.tmp rfl) (.inl ⟨rfl, rfl, rfl⟩)) rfl (lt_b rfl) ?_
        refine GoD.q rfl (QEx.cal0 (r := (Vec.av r14)) [(Vec.av (ix s.Vertices 1)), (Vec.av (ix s.Vertices 0))] rfl Tryz.call26 (.cons (.tmp rfl) (.cons (.tmp rfl) .nil)) (ref03_Sub_ok hr14) rfl rfl) rfl (lt_b rfl) ?_
        refine GoD.q rfl (QEx.cal0 (r := (iAV r15)) [(Vec.av r14)] rfl Tryz.call84 (.cons (.tmp rfl) .nil) (ref03_Length_ok hr15) rfl rfl) rfl (lt_b rfl) ?_
        refine GoD.q rfl (QEx.assign rfl (.tmp rfl)) rfl (lt_b rfl) ?_
        refine GoD.nil ⟨by kernel_rfl, by kernel_rfl, by kernel_rfl, by kernel_rfl, by kernel_rfl, ?_⟩
        refine GoT.nil ?_
        refine let_e h fun r16 hr16 h => ?_
        refine bind_e h fun r17 hr17 h => ?_
        refine let_e h fun r18 hr18 h => ?_
        refine bind_e h fun r19 hr19 h => ?_
        refine Wp.seq ?_
        refine Wp.region ?_
        refine GoT.q rfl (QEx.move rfl (.tmp rfl)) rfl (lt_b rfl) ?_
        refine GoT.q rfl (QEx.fldP 1 rfl Tryz.underlying42 rfl ts3 rfl (.tmp rfl) rfl) rfl (lt_b rfl) ?_
        refine GoT.qr rfl rfl (QEx.ldP1 (Shape.cells s) (iAV s.Radius) rfl ag3 (.tmp rfl) rfl) rfl (lt_b rfl) ?_
        refine GoT.q rfl (QEx.fldP 1 rfl Tryz.underlying42 rfl ts3 rfl (.tmp rfl) rfl) rfl (lt_b rfl) ?_
        refine GoT.qr rfl rfl (QEx.ldP1 (Shape.cells s) (iAV s.Radius) rfl ag3 (.tmp rfl) rfl) rfl (lt_b rfl) ?_
        refine GoT.q rfl (QEx.cal0 (r := (iAV r16)) [(iAV s.Radius), (iAV s.Radius)] rfl Tryz.call28 (.cons (.tmp rfl) (.cons (.tmp rfl) .nil)) (ref01_Add_ok hr16) rfl rfl) rfl (lt_b rfl) ?_
        refine GoT.q rfl (QEx.move rfl (.tmp rfl)) rfl (lt_b rfl) ?_
        refine GoT.q rfl (QEx.cal0 (r := (iAV r17)) [(iAV r16), (iAV r15)] rfl Tryz.call27 (.cons (.tmp rfl) (.cons (.tmp rfl) .nil)) (ref01_Mul_ok hr17) rfl rfl) rfl (lt_b rfl) ?_
        refine GoT.q rfl (QEx.cal0 (r := (iAV r18)) [(iAV r4), (iAV r17)] rfl Tryz.call28 (.cons (.tmp rfl) (.cons (.tmp rfl) .nil)) (ref01_Add_ok hr18) rfl rfl) rfl (lt_b rfl) ?_
        refine GoT.q rfl (QEx.move rfl (.tmp rfl)) rfl (lt_b rfl) ?_
        refine GoT.q rfl (QEx.cal0 (r := (iAV r19)) [(iAV r18), (iAV density)] rfl Tryz.call27 (.cons (.tmp rfl) (.cons (.tmp rfl) .nil)) (ref01_Mul_ok hr19) rfl rfl) rfl (lt_b rfl) ?_
        refine GoT.q rfl (QEx.assign rfl (.tmp rfl)) rfl (lt_b rfl) ?_
        refine GoT.nil ?_
        refine chk_e h fun c20 h => ?_
        refine chk_e h fun c21 h => ?_
        refine bind_e h fun r22 hr22 h => ?_
        refine bind_e h fun r23 hr23 h => ?_
        refine bind_e h fun r24 hr24 h => ?_
        refine bind_e h fun r25 hr25 h => ?_
        refine let_e h fun r26 hr26 h => ?_
        refine bind_e h fun r27 hr27 h => ?_
        refine let_e h fun x28 hx28 h => ?_
        refine Wp.seq ?_
        refine Wp.drawn2 (n0 := 21) [11] mixed ?_
        refine GoD.q rfl (QEx.move rfl (.tmp rfl)) rfl (lt_b rfl) ?_
        refine GoD.q rfl (QEx.fldP 2 rfl Tryz.underlying42 rfl ts40 rfl (.tmp rfl) rfl) rfl (lt_b rfl) ?_
        refine GoD.qr rfl rfl (QEx.ldP1 (Shape.cells s) ((slAV 2 Vec.av) s.Vertices) rfl ag40 (.tmp rfl) rfl) rfl (lt_b rfl) ?_
        refine GoD.q rfl (QEx.as (.cptr (Vec.cells (ix s.Vertices 0))) (QEx.idxL (E := Vec.av) rfl et40 (.tmp rfl) .con c20)) rfl (lt_b rfl) ?_
        refine GoD.q rfl (QEx.ldC (x := (Vec.av (ix s.Vertices 0))) rfl ag24 ts24 (.tmp rfl) (.inl ⟨rfl, rfl, rfl⟩)) rfl (lt_b rfl) ?_
        refine GoD.q rfl (QEx.fldP 2 rfl Tryz.underlying42 rfl ts40 rfl (.tmp rfl) rfl) rfl (lt_b rfl) ?_
        refine GoD.qr rfl rfl (QEx.ldP1 (Shape.cells s) ((slAV 2 Vec.av) s.Vertices) rfl ag40 (.tmp rfl) rfl) rfl (lt_b rfl) ?_
        refine GoD.q rfl (QEx.as (.cptr (Vec.cells (ix s.Vertices 1))) (QEx.idxL (E := Vec.av) rfl et40 (.tmp rfl) .con c21)) rfl (lt_b rfl) ?_
        refine GoD.q rfl (QEx.ldC (x := (Vec.av (ix s.Vertices 1))) rfl ag24 ts24 (.tmp rfl) (.inl ⟨rfl, rfl, rfl⟩)) rfl (lt_b rfl) ?_
        refine GoD.q rfl (QEx.cal0 (r := (Vec.av r22)) [(Vec.av (ix s.Vertices 0)), (Vec.av (ix s.Vertices 1)), (iAV 32768)] rfl Tryz.call85 (.cons (.tmp rfl) (.cons (.tmp rfl) (.cons .con .nil))) (ref03_Lerp_ok hr22) rfl rfl) rfl (lt_b rfl) ?_
        refine GoD.q rfl (QEx.move rfl (.tmp rfl)) rfl (lt_b rfl) ?_
        refine GoD.q rfl (QEx.move rfl (.tmp rfl)) rfl (lt_b rfl) ?_
        refine GoD.q rfl (QEx.cal0 (r := (iAV r23)) [(iAV r3), (iAV 2)] rfl Tryz.call44 (.cons (.tmp rfl) (.cons .con .nil)) (ref01_RoundDiv_ok hr23) rfl rfl) rfl (lt_b rfl) ?_
        refine GoD.q rfl (QEx.move rfl (.tmp rfl)) rfl (lt_b rfl) ?_
        refine GoD.q rfl (QEx.move rfl (.tmp rfl)) rfl (lt_b rfl) ?_
        refine GoD.q rfl (QEx.cal0 (r := (iAV r24)) [(iAV r15), (iAV r15)] rfl Tryz.call27 (.cons (.tmp rfl) (.cons (.tmp rfl) .nil)) (ref01_Mul_ok hr24) rfl rfl) rfl (lt_b rfl) ?_
        refine GoD.q rfl (QEx.cal0 (r := (iAV r25)) [(iAV r24), (iAV 12)] rfl Tryz.call44 (.cons (.tmp rfl) (.cons .con .nil)) (ref01_RoundDiv_ok hr25) rfl rfl) rfl (lt_b rfl) ?_
        refine GoD.q rfl (QEx.cal0 (r := (iAV r26)) [(iAV r23), (iAV r25)] rfl Tryz.call28 (.cons (.tmp rfl) (.cons (.tmp rfl) .nil)) (ref01_Add_ok hr26) rfl rfl) rfl (lt_b rfl) ?_
        refine GoD.q rfl (QEx.cal0 (r := (iAV r27)) [(iAV r19), (iAV r26)] rfl Tryz.call27 (.cons (.tmp rfl) (.cons (.tmp rfl) .nil)) (ref01_Mul_ok hr27) rfl rfl) rfl (lt_b rfl) ?_
        refine GoD.q rfl (QEx.as (MassData.av (⟨r19, r22, r27⟩ : MassData)) (QEx.buildZ rfl Tryz.underlying54 zt54 (by kernel_rfl) (.cons rfl (.tmp rfl) rfl rfl (le_b rfl) (.cons rfl (.tmp rfl) rfl rfl (le_b rfl) (.cons rfl (.tmp rfl) rfl rfl (le_b rfl) .nil))))) rfl (lt_b rfl) ?_
        refine GoD.s rfl (Z := (MassData.cells x28)) rfl rfl ts54 (.tmp rfl) rfl (.tmp rfl) rfl rfl (le_b rfl) (congrArg (fun (x : MassData) => (MassData.cells x)) hx28) ?_
        refine GoD.nil ⟨by kernel_rfl, by kernel_rfl, by kernel_rfl, by kernel_rfl, by kernel_rfl, ?_⟩
        refine GoT.nil ?_
        refine Wp.ret ?_
        cases h
        exact LeafQ.ret [] (by decide) (.cons (.agg rfl rfl ag54 ts54) .nil) rfl
      · refine Wp.skip ?_
        refine bind_e h fun r29 hr29 h => ?_
        refine bind_e h fun r30 hr30 h => ?_
        refine Wp.seq ?_
        refine Wp.region ?_
        refine GoT.q rfl (QEx.fldP 2 rfl Tryz.underlying42 rfl ts40 rfl (.tmp rfl) rfl) rfl (lt_b rfl) ?_
        refine GoT.qr rfl rfl (QEx.ldP1 (Shape.cells s) ((slAV 2 Vec.av) s.Vertices) rfl ag40 (.tmp rfl) rfl) rfl (lt_b rfl) ?_
        refine GoT.q rfl (QEx.cal0 (r := (iAV r29)) [((slAV 2 Vec.av) s.Vertices)] rfl Tryz.call86 (.cons (.tmp rfl) .nil) (ref11_Area_ok hr29) rfl rfl) rfl (lt_b rfl) ?_
        refine GoT.q rfl (QEx.move rfl (.tmp rfl)) rfl (lt_b rfl) ?_
        refine GoT.q rfl (QEx.cal0 (r := (iAV r30)) [(iAV r29), (iAV density)] rfl Tryz.call27 (.cons (.tmp rfl) (.cons (.tmp rfl) .nil)) (ref01_Mul_ok hr30) rfl rfl) rfl (lt_b rfl) ?_
        refine GoT.q rfl (QEx.assign rfl (.tmp rfl)) rfl (lt_b rfl) ?_
        refine GoT.nil ?_
        refine bind_e h fun r31 hr31 h => ?_
        refine let_e h fun x32 hx32 h => ?_
        refine Wp.seq ?_
        refine Wp.region ?_
        refine GoT.q rfl (QEx.fldP 2 rfl Tryz.underlying42 rfl ts40 rfl (.tmp rfl) rfl) rfl (lt_b rfl) ?_
        refine GoT.qr rfl rfl (QEx.ldP1 (Shape.cells s) ((slAV 2 Vec.av) s.Vertices) rfl ag40 (.tmp rfl) rfl) rfl (lt_b rfl) ?_
        refine GoT.q rfl (QEx.cal0 (r := (Vec.av r31)) [((slAV 2 Vec.av) s.Vertices)] rfl Tryz.call87 (.cons (.tmp rfl) .nil) (ref11_Centroid_ok hr31) rfl rfl) rfl (lt_b rfl) ?_
        refine GoT.a rfl (AEx.alZ rfl zt24 rfl rfl) rfl (lt_b rfl) ?_
        refine GoT.s rfl (AEx.sto (Z := (Vec.cells x32)) rfl rfl ts24 (.tmp rfl) rfl (.tmp rfl) rfl rfl (le_b rfl) (congrArg (fun (x : Vec) => (Vec.cells x)) hx32)) rfl ?_
        refine GoT.nil ?_
        refine bind_e h fun r33 hr33 h => ?_
        refine let_e h fun x34 hx34 h => ?_
        refine Wp.seq ?_
        refine Wp.drawn2 (n0 := 9) [] mixed ?_
        refine GoD.q rfl (QEx.move rfl (.tmp rfl)) rfl (lt_b rfl) ?_
        refine GoD.qr rfl rfl (QEx.ldP (Vec.cells x32) (Vec.av x32) rfl ag24 ts24 (.tmp rfl) (le_b rfl) rfl) rfl (lt_b rfl) ?_
        refine GoD.q rfl (QEx.fldP 2 rfl Tryz.underlying42 rfl ts40 rfl (.tmp rfl) rfl) rfl (lt_b rfl) ?_
        refine GoD.qr rfl rfl (QEx.ldP1 (Shape.cells s) ((slAV 2 Vec.av) s.Vertices) rfl ag40 (.tmp rfl) rfl) rfl (lt_b rfl) ?_
        refine GoD.qr rfl rfl (QEx.ldP (Vec.cells x32) (Vec.av x32) rfl ag24 ts24 (.tmp rfl) (le_b rfl) rfl) rfl (lt_b rfl) ?_
        refine GoD.q rfl (QEx.move rfl (.tmp rfl)) rfl (lt_b rfl) ?_
        refine GoD.q rfl (QEx.cal0 (r := (iAV r33)) [((slAV 2 Vec.av) s.Vertices), (Vec.av x32), (iAV r30)] rfl Tryz.call88 (.cons (.tmp rfl) (.cons (.tmp rfl) (.cons (.tmp rfl) .nil))) (ref13_polygonInertia_ok hr33) rfl rfl) rfl (lt_b rfl) ?_
        refine GoD.q rfl (QEx.as (MassData.av (⟨r30, x32, r33⟩ : MassData)) (QEx.buildZ rfl Tryz.underlying54 zt54 (by kernel_rfl) (.cons rfl (.tmp rfl) rfl rfl (le_b rfl) (.cons rfl (.tmp rfl) rfl rfl (le_b rfl) (.cons rfl (.tmp rfl) rfl rfl (le_b rfl) .nil))))) rfl (lt_b rfl) ?_
        refine GoD.s rfl (Z := (MassData.cells x34)) rfl rfl ts54 (.tmp rfl) rfl (.tmp rfl) rfl rfl (le_b rfl) (congrArg (fun (x : MassData) => (MassData.cells x)) hx34) ?_
        refine GoD.nil ⟨by kernel_rfl, by kernel_rfl, by kernel_rfl, by kernel_rfl, by kernel_rfl, ?_⟩
        refine GoT.nil ?_
        refine Wp.ret ?_
        cases h
        exact LeafQ.ret [] (by decide) (.cons (.agg rfl rfl ag54 ts54) .nil) rfl
end GoForm
