/- The program's functions compute their plain forms: printed by gen2.py. No conditions. -/
import Derived.Test.YtblkmlpjhpgkjaaGreatF23XW3
set_option linter.all false
set_option maxRecDepth 100000
open Go Go.Cx Go.Proofs Go.RowKit
namespace GoForm
theorem ref02_Sin_ok {a : Int} {r : Int} (h : ref02_Sin a = some r) : FnR Tryz.prog 152 [(iAV a)] (iAV r) := by
  refine FnR.intro' (fn := Tryz.f152) (N := 20) Tryz.func152 rfl rfl (Nat.le_of_ble_eq_true rfl) [] ?_
  refine Wp.seq ?_
  refine Wp.region ?_
  refine GoT.q rfl (QEx.as (iAV 0) (QEx.assign rfl .con)) rfl (lt_b rfl) ?_
  refine GoT.nil ?_
  refine let_e h fun r1 hr1 h => ?_
  refine Wp.seq ?_
  refine Wp.region ?_
  refine GoT.q rfl (QEx.move rfl (.tmp rfl)) rfl (lt_b rfl) ?_
  refine GoT.q rfl (QEx.cal0 (r := (iAV r1)) [(iAV a)] rfl Tryz.call169 (.cons (.tmp rfl) .nil) (ref02_Normalize_ok hr1) rfl rfl) rfl (lt_b rfl) ?_
  refine GoT.q rfl (QEx.assign rfl (.tmp rfl)) rfl (lt_b rfl) ?_
  refine GoT.nil ?_
  refine let_e h fun r2 hr2 h => ?_
  refine Wp.seq ?_
  refine Wp.region ?_
  refine GoT.q rfl (QEx.move rfl (.tmp rfl)) rfl (lt_b rfl) ?_
  refine GoT.q rfl (QEx.cal0 (r := (iAV r2)) [(iAV r1)] rfl Tryz.call168 (.cons (.tmp rfl) .nil) (ref02_abs_ok hr2) rfl rfl) rfl (lt_b rfl) ?_
  refine GoT.q rfl (QEx.assign rfl (.tmp rfl)) rfl (lt_b rfl) ?_
  refine GoT.nil ?_
  refine Wp.join1 (fun v3 => ⟨[(3, (iAV r1)), (4, (iAV v3))], [], []⟩) (fun v3 => (ref02_Sin_j1 r1) v3 = some r) ?_ ?_
  · intro v3 h
    refine Wp.seq ?_
    refine Wp.seq ?_
    refine Wp.region ?_
    refine GoT.q rfl (QEx.move rfl (.tmp rfl)) rfl (lt_b rfl) ?_
    refine GoT.q rfl (QEx.lssK rfl (.tmp rfl) .con) rfl (lt_b rfl) ?_
    refine GoT.nil ?_
    refine Wp.condS h rfl (fun h => ?_) (fun h => ?_)
    · refine bind_e h fun r5 hr5 h => ?_
      refine let_e h fun x6 hx6 h => ?_
      refine Wp.seq ?_
      refine Wp.region ?_
      refine GoT.q rfl (QEx.move rfl (.tmp rfl)) rfl (lt_b rfl) ?_
      refine GoT.q rfl (QEx.cal0 (r := (iAV r5)) [(iAV v3)] rfl Tryz.call170 (.cons (.tmp rfl) .nil) (ref02_firstQuadrant_ok hr5) rfl rfl) rfl (lt_b rfl) ?_
      refine GoT.q rfl (QEx.negK rfl (.tmp rfl)) rfl (lt_b rfl) ?_
      refine GoT.q rfl (QEx.eq (QEx.assign rfl (.tmp rfl)) (congrArg iAV hx6)) rfl (lt_b rfl) ?_
      refine GoT.nil ?_
      refine Wp.ret ?_
      cases h
      exact LeafQ.ret [] (by decide) (.cons (.tmp rfl) .nil) rfl
    · refine Wp.skip ?_
      refine bind_e h fun r7 hr7 h => ?_
      refine Wp.seq ?_
      refine Wp.region ?_
      refine GoT.q rfl (QEx.move rfl (.tmp rfl)) rfl (lt_b rfl) ?_
      refine GoT.q rfl (QEx.cal0 (r := (iAV r7)) [(iAV v3)] rfl Tryz.call170 (.cons (.tmp rfl) .nil) (ref02_firstQuadrant_ok hr7) rfl rfl) rfl (lt_b rfl) ?_
      refine GoT.q rfl (QEx.assign rfl (.tmp rfl)) rfl (lt_b rfl) ?_
      refine GoT.nil ?_
      refine Wp.ret ?_
      cases h
      exact LeafQ.ret [] (by decide) (.cons (.tmp rfl) .nil) rfl
  · refine Wp.seq ?_
    refine Wp.region ?_
    refine GoT.q rfl (QEx.move rfl (.tmp rfl)) rfl (lt_b rfl) ?_
    refine GoT.q rfl (QEx.gtrK rfl (.tmp rfl) .con) rfl (lt_b rfl) ?_
    refine GoT.nil ?_
    refine Wp.condS h rfl (fun h => ?_) (fun h => ?_)
    · refine let_e h fun x4 hx4 h => ?_
      refine Wp.region ?_
      refine GoT.q rfl (QEx.move rfl (.tmp rfl)) rfl (lt_b rfl) ?_
      refine GoT.q rfl (QEx.subK rfl .con (.tmp rfl)) rfl (lt_b rfl) ?_
      refine GoT.q rfl (QEx.eq (QEx.assign rfl (.tmp rfl)) (congrArg iAV hx4)) rfl (lt_b rfl) ?_
      refine GoT.nil ?_
      exact Joined1.mk x4 [] [] h (LS.to.mk (.b rfl rfl (.b rfl rfl .n)) .n rfl)
    · refine Wp.skip ?_
      exact Joined1.mk r2 [] [] h (LS.to.mk (.b rfl rfl (.b rfl rfl .n)) .n rfl)
theorem ref02_Cos_ok {a : Int} {r : Int} (h : ref02_Cos a = some r) : FnR Tryz.prog 151 [(iAV a)] (iAV r) := by
  refine FnR.intro' (fn := Tryz.f151) (N := 8) Tryz.func151 rfl rfl (Nat.le_of_ble_eq_true rfl) [] ?_
  refine Wp.seq ?_
  refine Wp.region ?_
  refine GoT.q rfl (QEx.as (iAV 0) (QEx.assign rfl .con)) rfl (lt_b rfl) ?_
  refine GoT.nil ?_
  refine let_e h fun r1 hr1 h => ?_
  refine let_e h fun r2 hr2 h => ?_
  refine bind_e h fun r3 hr3 h => ?_
  refine Wp.seq ?_
  refine Wp.region ?_
  refine GoT.q rfl (QEx.move rfl (.tmp rfl)) rfl (lt_b rfl) ?_
  refine GoT.q rfl (QEx.cal0 (r := (iAV r1)) [(iAV a)] rfl Tryz.call169 (.cons (.tmp rfl) .nil) (ref02_Normalize_ok hr1) rfl rfl) rfl (lt_b rfl) ?_
  refine GoT.q rfl (QEx.cal0 (r := (iAV r2)) [(iAV r1)] rfl Tryz.call168 (.cons (.tmp rfl) .nil) (ref02_abs_ok hr2) rfl rfl) rfl (lt_b rfl) ?_
  refine GoT.q rfl (QEx.subK rfl .con (.tmp rfl)) rfl (lt_b rfl) ?_
  refine GoT.q rfl (QEx.cal0 (r := (iAV r3)) [(iAV (w64 (102944 - r2)))] rfl Tryz.call152 (.cons (.tmp rfl) .nil) (ref02_Sin_ok hr3) rfl rfl) rfl (lt_b rfl) ?_
  refine GoT.q rfl (QEx.assign rfl (.tmp rfl)) rfl (lt_b rfl) ?_
  refine GoT.nil ?_
  refine Wp.ret ?_
  cases h
  exact LeafQ.ret [] (by decide) (.cons (.tmp rfl) .nil) rfl
theorem ref02_Rot_ok {a : Int} {r : Rot} (h : ref02_Rot a = some r) : FnR Tryz.prog 108 [(iAV a)] (Rot.av r) := by
  refine FnR.intro' (fn := Tryz.f108) (N := 25) Tryz.func108 rfl rfl (Nat.le_of_ble_eq_true rfl) [2] ?_
  refine Wp.seq ?_
  refine Wp.region ?_
  refine GoT.a rfl (AEx.alZ rfl zt100 rfl rfl) rfl (lt_b rfl) ?_
  refine GoT.nil ?_
  refine bind_e h fun r1 hr1 h => ?_
  refine bind_e h fun r2 hr2 h => ?_
  refine Wp.seq ?_
  refine Wp.region ?_
  refine GoT.q rfl (QEx.move rfl (.tmp rfl)) rfl (lt_b rfl) ?_
  refine GoT.q rfl (QEx.cal0 (r := (iAV r1)) [(iAV a)] rfl Tryz.call151 (.cons (.tmp rfl) .nil) (ref02_Cos_ok hr1) rfl rfl) rfl (lt_b rfl) ?_
  refine GoT.q rfl (QEx.move rfl (.tmp rfl)) rfl (lt_b rfl) ?_
  refine GoT.q rfl (QEx.cal0 (r := (iAV r2)) [(iAV a)] rfl Tryz.call152 (.cons (.tmp rfl) .nil) (ref02_Sin_ok hr2) rfl rfl) rfl (lt_b rfl) ?_
  refine GoT.q rfl (QEx.assign rfl (.tmp rfl)) rfl (lt_b rfl) ?_
  refine GoT.q rfl (QEx.assign rfl (.tmp rfl)) rfl (lt_b rfl) ?_
  refine GoT.nil ?_
  refine bind_e h fun r3 hr3 h => ?_
  refine Wp.seq ?_
  refine Wp.region ?_
  refine GoT.q rfl (QEx.move rfl (.tmp rfl)) rfl (lt_b rfl) ?_
  refine GoT.q rfl (QEx.move rfl (.tmp rfl)) rfl (lt_b rfl) ?_
  refine GoT.q rfl (QEx.mulK rfl (.tmp rfl) (.tmp rfl)) rfl (lt_b rfl) ?_
  refine GoT.q rfl (QEx.move rfl (.tmp rfl)) rfl (lt_b rfl) ?_
  refine GoT.q rfl (QEx.move rfl (.tmp rfl)) rfl (lt_b rfl) ?_
  refine GoT.q rfl (QEx.mulK rfl (.tmp rfl) (.tmp rfl)) rfl (lt_b rfl) ?_
  refine GoT.q rfl (QEx.addK rfl (.tmp rfl) (.tmp rfl)) rfl (lt_b rfl) ?_
  refine GoT.q rfl (QEx.cal0 (r := (iAV r3)) [(iAV (w64 ((w64 (r1 * r1)) + (w64 (r2 * r2)))))] rfl Tryz.call133 (.cons (.tmp rfl) .nil) (ref01_Isqrt_ok hr3) rfl rfl) rfl (lt_b rfl) ?_
  refine GoT.q rfl (QEx.assign rfl (.tmp rfl)) rfl (lt_b rfl) ?_
  refine GoT.nil ?_
  refine bind_e h fun r4 hr4 h => ?_
  refine bind_e h fun r5 hr5 h => ?_
  refine let_e h fun x6 hx6 h => ?_
  refine Wp.seq ?_
  refine Wp.region ?_
  refine GoT.q rfl (QEx.move rfl (.tmp rfl)) rfl (lt_b rfl) ?_
  refine GoT.q rfl (QEx.move rfl (.tmp rfl)) rfl (lt_b rfl) ?_
  refine GoT.q rfl (QEx.cal0 (r := (iAV r4)) [(iAV r1), (iAV r3)] rfl Tryz.call110 (.cons (.tmp rfl) (.cons (.tmp rfl) .nil)) (ref01_Div_ok hr4) rfl rfl) rfl (lt_b rfl) ?_
  refine GoT.q rfl (QEx.move rfl (.tmp rfl)) rfl (lt_b rfl) ?_
  refine GoT.q rfl (QEx.move rfl (.tmp rfl)) rfl (lt_b rfl) ?_
  refine GoT.q rfl (QEx.cal0 (r := (iAV r5)) [(iAV r2), (iAV r3)] rfl Tryz.call110 (.cons (.tmp rfl) (.cons (.tmp rfl) .nil)) (ref01_Div_ok hr5) rfl rfl) rfl (lt_b rfl) ?_
  refine GoT.q rfl (QEx.as (Rot.av (⟨r4, r5⟩ : Rot)) (QEx.buildZ rfl uT100 zt100 (by kernel_rfl) (.cons rfl (.tmp rfl) rfl rfl (le_b rfl) (.cons rfl (.tmp rfl) rfl rfl (le_b rfl) .nil)))) rfl (lt_b rfl) ?_
  refine GoT.s rfl (AEx.sto (Z := (Rot.cells x6)) rfl rfl ts100 (.tmp rfl) rfl (.tmp rfl) rfl rfl (le_b rfl) (congrArg (fun (x : Rot) => (Rot.cells x)) hx6)) rfl ?_
  refine GoT.nil ?_
  refine Wp.ret ?_
  cases h
  exact LeafQ.ret [] (by decide) (.cons (.agg rfl rfl ag100 ts100) .nil) rfl
theorem ref03_Rotate_ok {r_0 : Rot} {v_1 : Vec} {r : Vec} (h : ref03_Rotate r_0 v_1 = some r) : FnR Tryz.prog 107 [(Rot.av r_0), (Vec.av v_1)] (Vec.av r) := by
  refine FnR.intro' (fn := Tryz.f107) (N := 37) Tryz.func107 rfl rfl (Nat.le_of_ble_eq_true rfl) [2, 3, 4] ?_
  refine Wp.seq ?_
  refine Wp.region ?_
  refine GoT.a rfl (AEx.bx (Z := (Rot.cells r_0)) rfl (.tmp rfl) rfl rfl rfl rfl) rfl (lt_b rfl) ?_
  refine GoT.a rfl (AEx.bx (Z := (Vec.cells v_1)) rfl (.tmp rfl) rfl rfl rfl rfl) rfl (lt_b rfl) ?_
  refine GoT.a rfl (AEx.alZ rfl zt24 rfl rfl) rfl (lt_b rfl) ?_
  refine GoT.nil ?_
  refine let_e h fun r1 hr1 h => ?_
  refine Wp.seq ?_
  refine Wp.region ?_
  refine GoT.q rfl (QEx.fldP 0 rfl uT100 rfl ts3 rfl (.tmp rfl) rfl) rfl (lt_b rfl) ?_
  refine GoT.qr rfl rfl (QEx.ldP1 (Rot.cells r_0) (iAV r_0.Cos) rfl ag3 (.tmp rfl) rfl) rfl (lt_b rfl) ?_
  refine GoT.q rfl (QEx.cal0 (r := (iAV r1)) [(iAV r_0.Cos)] rfl Tryz.call121 (.cons (.tmp rfl) .nil) (ref01_Saturate_ok hr1) rfl rfl) rfl (lt_b rfl) ?_
  refine GoT.q rfl (QEx.assign rfl (.tmp rfl)) rfl (lt_b rfl) ?_
  refine GoT.nil ?_
  refine let_e h fun r2 hr2 h => ?_
  refine Wp.seq ?_
  refine Wp.region ?_
  refine GoT.q rfl (QEx.fldP 1 rfl uT100 rfl ts3 rfl (.tmp rfl) rfl) rfl (lt_b rfl) ?_
  refine GoT.qr rfl rfl (QEx.ldP1 (Rot.cells r_0) (iAV r_0.Sin) rfl ag3 (.tmp rfl) rfl) rfl (lt_b rfl) ?_
  refine GoT.q rfl (QEx.cal0 (r := (iAV r2)) [(iAV r_0.Sin)] rfl Tryz.call121 (.cons (.tmp rfl) .nil) (ref01_Saturate_ok hr2) rfl rfl) rfl (lt_b rfl) ?_
  refine GoT.q rfl (QEx.assign rfl (.tmp rfl)) rfl (lt_b rfl) ?_
  refine GoT.nil ?_
  refine let_e h fun r3 hr3 h => ?_
  refine let_e h fun x4 hx4 h => ?_
  refine Wp.seq ?_
  refine Wp.region ?_
  refine GoT.qr rfl rfl (QEx.ldP (Vec.cells v_1) (Vec.av v_1) rfl ag24 ts24 (.tmp rfl) (le_b rfl) rfl) rfl (lt_b rfl) ?_
  refine GoT.q rfl (QEx.cal0 (r := (Vec.av r3)) [(Vec.av v_1)] rfl Tryz.call123 (.cons (.tmp rfl) .nil) (ref03_Saturated_ok hr3) rfl rfl) rfl (lt_b rfl) ?_
  refine GoT.s rfl (AEx.sto (Z := (Vec.cells x4)) rfl rfl ts24 (.tmp rfl) rfl (.tmp rfl) rfl rfl (le_b rfl) (congrArg (fun (x : Vec) => (Vec.cells x)) hx4)) rfl ?_
  refine GoT.nil ?_
  refine bind_e h fun r5 hr5 h => ?_
  refine bind_e h fun r6 hr6 h => ?_
  refine let_e h fun r7 hr7 h => ?_
  refine let_e h fun x8 hx8 h => ?_
  refine Wp.seq ?_
  refine Wp.drawn2 (n0 := 23) [] mixed ?_
  refine GoD.q rfl (QEx.move rfl (.tmp rfl)) rfl (lt_b rfl) ?_
  refine GoD.q rfl (QEx.fldP 0 rfl uT24 rfl ts3 rfl (.tmp rfl) rfl) rfl (lt_b rfl) ?_
  refine GoD.qr rfl rfl (QEx.ldP1 (Vec.cells x4) (iAV x4.X) rfl ag3 (.tmp rfl) rfl) rfl (lt_b rfl) ?_
  refine GoD.q rfl (QEx.mulK rfl (.tmp rfl) (.tmp rfl)) rfl (lt_b rfl) ?_
  refine GoD.q rfl (QEx.move rfl (.tmp rfl)) rfl (lt_b rfl) ?_
  refine GoD.q rfl (QEx.fldP 1 rfl uT24 rfl ts3 rfl (.tmp rfl) rfl) rfl (lt_b rfl) ?_
  refine GoD.qr rfl rfl (QEx.ldP1 (Vec.cells x4) (iAV x4.Y) rfl ag3 (.tmp rfl) rfl) rfl (lt_b rfl) ?_
  refine GoD.q rfl (QEx.mulK rfl (.tmp rfl) (.tmp rfl)) rfl (lt_b rfl) ?_
  refine GoD.q rfl (QEx.subK rfl (.tmp rfl) (.tmp rfl)) rfl (lt_b rfl) ?_
  refine GoD.q rfl (QEx.cal0 (r := (iAV r5)) [(iAV (w64 ((w64 (r1 * x4.X)) - (w64 (r2 * x4.Y))))), (iAV 65536)] rfl Tryz.call122 (.cons (.tmp rfl) (.cons .con .nil)) (ref01_RoundDiv_ok hr5) rfl rfl) rfl (lt_b rfl) ?_
  refine GoD.q rfl (QEx.move rfl (.tmp rfl)) rfl (lt_b rfl) ?_
  refine GoD.q rfl (QEx.fldP 0 rfl uT24 rfl ts3 rfl (.tmp rfl) rfl) rfl (lt_b rfl) ?_
  refine GoD.qr rfl rfl (QEx.ldP1 (Vec.cells x4) (iAV x4.X) rfl ag3 (.tmp rfl) rfl) rfl (lt_b rfl) ?_
  refine GoD.q rfl (QEx.mulK rfl (.tmp rfl) (.tmp rfl)) rfl (lt_b rfl) ?_
  refine GoD.q rfl (QEx.move rfl (.tmp rfl)) rfl (lt_b rfl) ?_
  refine GoD.q rfl (QEx.fldP 1 rfl uT24 rfl ts3 rfl (.tmp rfl) rfl) rfl (lt_b rfl) ?_
  refine GoD.qr rfl rfl (QEx.ldP1 (Vec.cells x4) (iAV x4.Y) rfl ag3 (.tmp rfl) rfl) rfl (lt_b rfl) ?_
  refine GoD.q rfl (QEx.mulK rfl (.tmp rfl) (.tmp rfl)) rfl (lt_b rfl) ?_
  refine GoD.q rfl (QEx.addK rfl (.tmp rfl) (.tmp rfl)) rfl (lt_b rfl) ?_
  refine GoD.q rfl (QEx.cal0 (r := (iAV r6)) [(iAV (w64 ((w64 (r2 * x4.X)) + (w64 (r1 * x4.Y))))), (iAV 65536)] rfl Tryz.call122 (.cons (.tmp rfl) (.cons .con .nil)) (ref01_RoundDiv_ok hr6) rfl rfl) rfl (lt_b rfl) ?_
  refine GoD.q rfl (QEx.as (Vec.av (⟨r5, r6⟩ : Vec)) (QEx.buildZ rfl uT24 zt24 (by kernel_rfl) (.cons rfl (.tmp rfl) rfl rfl (le_b rfl) (.cons rfl (.tmp rfl) rfl rfl (le_b rfl) .nil)))) rfl (lt_b rfl) ?_
  refine GoD.q rfl (QEx.cal0 (r := (Vec.av r7)) [(Vec.av (⟨r5, r6⟩ : Vec))] rfl Tryz.call123 (.cons (.tmp rfl) .nil) (ref03_Saturated_ok hr7) rfl rfl) rfl (lt_b rfl) ?_
  refine GoD.s rfl (Z := (Vec.cells x8)) rfl rfl ts24 (.tmp rfl) rfl (.tmp rfl) rfl rfl (le_b rfl) (congrArg (fun (x : Vec) => (Vec.cells x)) hx8) ?_
  refine GoD.nil ⟨by kernel_rfl, by kernel_rfl, by kernel_rfl, by kernel_rfl, by kernel_rfl, ?_⟩
  refine GoT.nil ?_
  refine Wp.ret ?_
  cases h
  exact LeafQ.ret [] (by decide) (.cons (.agg rfl rfl ag24 ts24) .nil) rfl
theorem ref01_Add_ok {a : Int} {b : Int} {r : Int} (h : ref01_Add a b = r) : FnR Tryz.prog 68 [(iAV a), (iAV b)] (iAV r) := by
  refine FnR.intro' (fn := Tryz.f68) (N := 11) Tryz.func68 rfl rfl (Nat.le_of_ble_eq_true rfl) [] ?_
  refine Wp.seq ?_
  refine Wp.region ?_
  refine GoT.q rfl (QEx.as (iAV 0) (QEx.assign rfl .con)) rfl (lt_b rfl) ?_
  refine GoT.nil ?_
  refine let_e h fun r1 hr1 h => ?_
  refine let_e h fun r2 hr2 h => ?_
  refine let_e h fun r3 hr3 h => ?_
  refine Wp.seq ?_
  refine Wp.region ?_
  refine GoT.q rfl (QEx.move rfl (.tmp rfl)) rfl (lt_b rfl) ?_
  refine GoT.q rfl (QEx.cal0 (r := (iAV r1)) [(iAV a)] rfl Tryz.call121 (.cons (.tmp rfl) .nil) (ref01_Saturate_ok hr1) rfl rfl) rfl (lt_b rfl) ?_
  refine GoT.q rfl (QEx.move rfl (.tmp rfl)) rfl (lt_b rfl) ?_
  refine GoT.q rfl (QEx.cal0 (r := (iAV r2)) [(iAV b)] rfl Tryz.call121 (.cons (.tmp rfl) .nil) (ref01_Saturate_ok hr2) rfl rfl) rfl (lt_b rfl) ?_
  refine GoT.q rfl (QEx.addK rfl (.tmp rfl) (.tmp rfl)) rfl (lt_b rfl) ?_
  refine GoT.q rfl (QEx.cal0 (r := (iAV r3)) [(iAV (w64 (r1 + r2)))] rfl Tryz.call121 (.cons (.tmp rfl) .nil) (ref01_Saturate_ok hr3) rfl rfl) rfl (lt_b rfl) ?_
  refine GoT.q rfl (QEx.assign rfl (.tmp rfl)) rfl (lt_b rfl) ?_
  refine GoT.nil ?_
  refine Wp.ret ?_
  cases h
  exact LeafQ.ret [] (by decide) (.cons (.tmp rfl) .nil) rfl
theorem ref03_Add_ok {a : Vec} {b : Vec} {r : Vec} (h : ref03_Add a b = r) : FnR Tryz.prog 54 [(Vec.av a), (Vec.av b)] (Vec.av r) := by
  refine FnR.intro' (fn := Tryz.f54) (N := 16) Tryz.func54 rfl rfl (Nat.le_of_ble_eq_true rfl) [2, 3, 4] ?_
  refine Wp.seq ?_
  refine Wp.region ?_
  refine GoT.a rfl (AEx.bx (Z := (Vec.cells a)) rfl (.tmp rfl) rfl rfl rfl rfl) rfl (lt_b rfl) ?_
  refine GoT.a rfl (AEx.bx (Z := (Vec.cells b)) rfl (.tmp rfl) rfl rfl rfl rfl) rfl (lt_b rfl) ?_
  refine GoT.a rfl (AEx.alZ rfl zt24 rfl rfl) rfl (lt_b rfl) ?_
  refine GoT.nil ?_
  refine let_e h fun r1 hr1 h => ?_
  refine let_e h fun r2 hr2 h => ?_
  refine let_e h fun x3 hx3 h => ?_
  refine Wp.seq ?_
  refine Wp.drawn2 (n0 := 12) [] mixed ?_
  refine GoD.q rfl (QEx.fldP 0 rfl uT24 rfl ts3 rfl (.tmp rfl) rfl) rfl (lt_b rfl) ?_
  refine GoD.qr rfl rfl (QEx.ldP1 (Vec.cells a) (iAV a.X) rfl ag3 (.tmp rfl) rfl) rfl (lt_b rfl) ?_
  refine GoD.q rfl (QEx.fldP 0 rfl uT24 rfl ts3 rfl (.tmp rfl) rfl) rfl (lt_b rfl) ?_
  refine GoD.qr rfl rfl (QEx.ldP1 (Vec.cells b) (iAV b.X) rfl ag3 (.tmp rfl) rfl) rfl (lt_b rfl) ?_
  refine GoD.q rfl (QEx.cal0 (r := (iAV r1)) [(iAV a.X), (iAV b.X)] rfl Tryz.call68 (.cons (.tmp rfl) (.cons (.tmp rfl) .nil)) (ref01_Add_ok hr1) rfl rfl) rfl (lt_b rfl) ?_
  refine GoD.q rfl (QEx.fldP 1 rfl uT24 rfl ts3 rfl (.tmp rfl) rfl) rfl (lt_b rfl) ?_
  refine GoD.qr rfl rfl (QEx.ldP1 (Vec.cells a) (iAV a.Y) rfl ag3 (.tmp rfl) rfl) rfl (lt_b rfl) ?_
  refine GoD.q rfl (QEx.fldP 1 rfl uT24 rfl ts3 rfl (.tmp rfl) rfl) rfl (lt_b rfl) ?_
  refine GoD.qr rfl rfl (QEx.ldP1 (Vec.cells b) (iAV b.Y) rfl ag3 (.tmp rfl) rfl) rfl (lt_b rfl) ?_
  refine GoD.q rfl (QEx.cal0 (r := (iAV r2)) [(iAV a.Y), (iAV b.Y)] rfl Tryz.call68 (.cons (.tmp rfl) (.cons (.tmp rfl) .nil)) (ref01_Add_ok hr2) rfl rfl) rfl (lt_b rfl) ?_
  refine GoD.q rfl (QEx.as (Vec.av (⟨r1, r2⟩ : Vec)) (QEx.buildZ rfl uT24 zt24 (by kernel_rfl) (.cons rfl (.tmp rfl) rfl rfl (le_b rfl) (.cons rfl (.tmp rfl) rfl rfl (le_b rfl) .nil)))) rfl (lt_b rfl) ?_
  refine GoD.s rfl (Z := (Vec.cells x3)) rfl rfl ts24 (.tmp rfl) rfl (.tmp rfl) rfl rfl (le_b rfl) (congrArg (fun (x : Vec) => (Vec.cells x)) hx3) ?_
  refine GoD.nil ⟨by kernel_rfl, by kernel_rfl, by kernel_rfl, by kernel_rfl, by kernel_rfl, ?_⟩
  refine GoT.nil ?_
  refine Wp.ret ?_
  cases h
  exact LeafQ.ret [] (by decide) (.cons (.agg rfl rfl ag24 ts24) .nil) rfl
theorem ref04_Apply_ok {p : Transform} {v_1 : Vec} {r : Vec} (h : ref04_Apply p v_1 = some r) : FnR Tryz.prog 48 [(Transform.av p), (Vec.av v_1)] (Vec.av r) := by
  refine FnR.intro' (fn := Tryz.f48) (N := 13) Tryz.func48 rfl rfl (Nat.le_of_ble_eq_true rfl) [2, 3, 4] ?_
  refine Wp.seq ?_
  refine Wp.region ?_
  refine GoT.a rfl (AEx.bx (Z := (Transform.cells p)) rfl (.tmp rfl) rfl rfl rfl rfl) rfl (lt_b rfl) ?_
  refine GoT.a rfl (AEx.bx (Z := (Vec.cells v_1)) rfl (.tmp rfl) rfl rfl rfl rfl) rfl (lt_b rfl) ?_
  refine GoT.a rfl (AEx.alZ rfl zt24 rfl rfl) rfl (lt_b rfl) ?_
  refine GoT.nil ?_
  refine bind_e h fun r1 hr1 h => ?_
  refine bind_e h fun r2 hr2 h => ?_
  refine let_e h fun r3 hr3 h => ?_
  refine let_e h fun x4 hx4 h => ?_
  refine Wp.seq ?_
  refine Wp.drawn2 (n0 := 9) [] mixed ?_
  refine GoD.q rfl (QEx.fldP 2 rfl uT26 rfl ts3 rfl (.tmp rfl) rfl) rfl (lt_b rfl) ?_
  refine GoD.qr rfl rfl (QEx.ldP1 (Transform.cells p) (iAV p.Angle) rfl ag3 (.tmp rfl) rfl) rfl (lt_b rfl) ?_
  refine GoD.q rfl (QEx.cal0 (r := (Rot.av r1)) [(iAV p.Angle)] rfl Tryz.call108 (.cons (.tmp rfl) .nil) (ref02_Rot_ok hr1) rfl rfl) rfl (lt_b rfl) ?_
  refine GoD.qr rfl rfl (QEx.ldP (Vec.cells v_1) (Vec.av v_1) rfl ag24 ts24 (.tmp rfl) (le_b rfl) rfl) rfl (lt_b rfl) ?_
  refine GoD.q rfl (QEx.cal0 (r := (Vec.av r2)) [(Rot.av r1), (Vec.av v_1)] rfl Tryz.call107 (.cons (.tmp rfl) (.cons (.tmp rfl) .nil)) (ref03_Rotate_ok hr2) rfl rfl) rfl (lt_b rfl) ?_
  refine GoD.q rfl (QEx.fldP 0 rfl uT26 rfl ts24 rfl (.tmp rfl) rfl) rfl (lt_b rfl) ?_
  refine GoD.qr rfl rfl (QEx.ldP (Transform.cells p) (Vec.av p.Position) rfl ag24 ts24 (.tmp rfl) (le_b rfl) rfl) rfl (lt_b rfl) ?_
  refine GoD.q rfl (QEx.cal0 (r := (Vec.av r3)) [(Vec.av r2), (Vec.av p.Position)] rfl Tryz.call54 (.cons (.tmp rfl) (.cons (.tmp rfl) .nil)) (ref03_Add_ok hr3) rfl rfl) rfl (lt_b rfl) ?_
  refine GoD.s rfl (Z := (Vec.cells x4)) rfl rfl ts24 (.tmp rfl) rfl (.tmp rfl) rfl rfl (le_b rfl) (congrArg (fun (x : Vec) => (Vec.cells x)) hx4) ?_
  refine GoD.nil ⟨by kernel_rfl, by kernel_rfl, by kernel_rfl, by kernel_rfl, by kernel_rfl, ?_⟩
  refine GoT.nil ?_
  refine Wp.ret ?_
  cases h
  exact LeafQ.ret [] (by decide) (.cons (.agg rfl rfl ag24 ts24) .nil) rfl
theorem ref12_Vertices_ok {s : Shape} {p : Transform} {r : List Vec} (h : ref12_Vertices s p = some r) : FnR Tryz.prog 97 [(Shape.av s), (Transform.av p)] (slT 0 0 2 Vec.av r) := by
  refine FnR.intro' (fn := Tryz.f97) (N := 28) Tryz.func97 rfl rfl (Nat.le_of_ble_eq_true rfl) [2, 3, 4, 5, 17, 25, 26, 27] ?_
  refine Wp.seq ?_
  refine Wp.region ?_
  refine GoT.a rfl (AEx.bx (Z := (Shape.cells s)) rfl (.tmp rfl) rfl rfl rfl rfl) rfl (lt_b rfl) ?_
  refine GoT.a rfl (AEx.bx (Z := (Transform.cells p)) rfl (.tmp rfl) rfl rfl rfl rfl) rfl (lt_b rfl) ?_
  refine GoT.q rfl (QEx.as (slT 4 0 2 Vec.av ([] : List Vec)) (QEx.assign rfl (.nil))) rfl (lt_b rfl) ?_
  refine GoT.nil ?_
  refine Wp.seq ?_
  refine bind_e h fun r1 hr1 h => ?_
  refine Wp.seq ?_
  refine Wp.region ?_
  refine GoT.qr rfl rfl (QEx.ldP (Shape.cells s) (Shape.av s) rfl ag33 ts33 (.tmp rfl) (le_b rfl) rfl) rfl (lt_b rfl) ?_
  refine GoT.q rfl (QEx.cal0 (r := (iAV r1)) [(Shape.av s)] rfl Tryz.call39 (.cons (.tmp rfl) .nil) (ref12_Validate_ok hr1) rfl rfl) rfl (lt_b rfl) ?_
  refine GoT.q rfl (QEx.neqK rfl (.tmp rfl) .con) rfl (lt_b rfl) ?_
  refine GoT.nil ?_
  refine Wp.condS h rfl (fun h => ?_) (fun h => ?_)
  · refine Wp.seq ?_
    refine Wp.region ?_
    refine GoT.q rfl (QEx.as (slT 4 0 2 Vec.av ([] : List Vec)) (QEx.assign rfl (.nil))) rfl (lt_b rfl) ?_
    refine GoT.nil ?_
    refine Wp.ret ?_
    cases h
    exact LeafQ.ret [(4, 0)] (by decide) (.cons (.tmp rfl) .nil) rfl
  · refine Wp.skip ?_
    refine Wp.seq ?_
    refine Wp.region ?_
    refine GoT.q rfl (QEx.as (slT 5 0 2 Vec.av ([] : List Vec)) (QEx.assign rfl (.nil))) rfl (lt_b rfl) ?_
    refine GoT.nil ?_
    refine Wp.join1 (fun v2 => ⟨[(5, (slT 5 0 2 Vec.av v2))], [], [2, 3, 4, 17, 25, 26, 27]⟩) (fun v2 => ref12_Vertices_j2 v2 = some r) ?_ ?_
    · intro v2 h
      refine Wp.seq ?_
      refine Wp.region ?_
      refine GoT.q rfl (QEx.move rfl (.tmp rfl)) rfl (lt_b rfl) ?_
      refine GoT.q rfl (QEx.assign rfl (.tmp rfl)) rfl (lt_b rfl) ?_
      refine GoT.nil ?_
      refine Wp.ret ?_
      cases h
      exact LeafQ.ret [(5, 0)] (by decide) (.cons (.tmp rfl) .nil) rfl
    · refine Wp.seq ?_
      refine Wp.region ?_
      refine GoT.q rfl (QEx.as (iAV 0) (QEx.assign rfl .con)) rfl (lt_b rfl) ?_
      refine GoT.nil ?_
      refine Wp.block ?_
      refine Wp.loop2 (fun v3 v4 => ⟨[(2, (.ptr 2 0)), (3, (.ptr 3 0)), (5, (slT 5 0 2 Vec.av v3)), (6, (iAV v4))], [(2, .cells (Shape.cells s)), (3, .cells (Transform.cells p))], [4, 17, 25, 26, 27]⟩) (fun n v3 v4 => ref12_Vertices_l1 s p ref12_Vertices_j2 n v3 v4 = some r) fuel ([] : List Vec) 0 [] [] h (LS.to.mk (.r rfl rfl (.r rfl rfl (.r rfl rfl (.b rfl rfl .n)))) (.b rfl rfl rfl (.b rfl rfl rfl .n)) rfl) ?_
      rintro (_ | n2) v3 v4 h
      · exact none_e h
      rw [ref12_Vertices_l1] at h
      refine Wp.seq ?_
      refine Wp.seq ?_
      refine Wp.region ?_
      refine GoT.q rfl (QEx.move rfl (.tmp rfl)) rfl (lt_b rfl) ?_
      refine GoT.q rfl (QEx.fldP 2 rfl uT33 rfl ts31 rfl (.tmp rfl) rfl) rfl (lt_b rfl) ?_
      refine GoT.qr rfl rfl (QEx.ldP1 (Shape.cells s) ((slAV 2 Vec.av) s.Vertices) rfl ag31 (.tmp rfl) rfl) rfl (lt_b rfl) ?_
      refine GoT.q rfl (QEx.lenL rfl ⟨_, uT31⟩ (.tmp rfl)) rfl (lt_b rfl) ?_
      refine GoT.q rfl (QEx.lssK rfl (.tmp rfl) (.tmp rfl)) rfl (lt_b rfl) ?_
      refine GoT.nil ?_
      refine Wp.condS h rfl (fun h => ?_) (fun h => ?_)
      · refine Wp.skip ?_
        refine Wp.seq ?_
        refine Wp.block ?_
        refine chk_e h fun c5 h => ?_
        refine bind_e h fun r6 hr6 h => ?_
        refine chk_e h fun c7 h => ?_
        refine let_e h fun x8 hx8 h => ?_
        refine Wp.drawn2 (n0 := 9) [4, 17, 25, 26, 27] mixed ?_
        refine GoD.q rfl (QEx.move rfl (.tmp rfl)) rfl (lt_b rfl) ?_
        refine GoD.qr rfl rfl (QEx.ldP (Transform.cells p) (Transform.av p) rfl ag26 ts26 (.tmp rfl) (le_b rfl) rfl) rfl (lt_b rfl) ?_
        refine GoD.q rfl (QEx.fldP 2 rfl uT33 rfl ts31 rfl (.tmp rfl) rfl) rfl (lt_b rfl) ?_
        refine GoD.qr rfl rfl (QEx.ldP1 (Shape.cells s) ((slAV 2 Vec.av) s.Vertices) rfl ag31 (.tmp rfl) rfl) rfl (lt_b rfl) ?_
        refine GoD.q rfl (QEx.move rfl (.tmp rfl)) rfl (lt_b rfl) ?_
        refine GoD.q rfl (QEx.as (.cptr (Vec.cells (ix s.Vertices v4))) (QEx.idxL (E := Vec.av) rfl et31 (.tmp rfl) (.tmp rfl) c5)) rfl (lt_b rfl) ?_
        refine GoD.q rfl (QEx.ldC (x := (Vec.av (ix s.Vertices v4))) rfl ag24 ts24 (.tmp rfl) (.inl ⟨rfl, rfl, rfl⟩)) rfl (lt_b rfl) ?_
        refine GoD.q rfl (QEx.cal0 (r := (Vec.av r6)) [(Transform.av p), (Vec.av (ix s.Vertices v4))] rfl Tryz.call48 (.cons (.tmp rfl) (.cons (.tmp rfl) .nil)) (ref04_Apply_ok hr6) rfl rfl) rfl (lt_b rfl) ?_
        refine GoD.q rfl (QEx.as (slT 25 0 2 Vec.av ([r6] : List Vec)) (QEx.buildSlice rfl et31 (.cons (.tmp rfl) rfl rfl rfl .nil) rfl (by decide))) rfl (lt_b rfl) ?_
        refine GoD.nil ⟨by kernel_rfl, by kernel_rfl, by kernel_rfl, by kernel_rfl, by kernel_rfl, ?_⟩
        refine GoT.a rfl (AEx.appL (E := Vec.av) rfl et31 (.tmp rfl) (.tmp rfl) rfl c7 rfl rfl hx8 (by decide)) rfl (lt_b rfl) ?_
        refine GoT.q rfl (QEx.assign rfl (.tmp rfl)) rfl (lt_b rfl) ?_
        refine GoT.nil ?_
        refine let_e h fun x9 hx9 h => ?_
        refine Wp.region ?_
        refine GoT.q rfl (QEx.move rfl (.tmp rfl)) rfl (lt_b rfl) ?_
        refine GoT.q rfl (QEx.addK rfl (.tmp rfl) .con) rfl (lt_b rfl) ?_
        refine GoT.q rfl (QEx.eq (QEx.assign rfl (.tmp rfl)) (congrArg iAV hx9)) rfl (lt_b rfl) ?_
        refine GoT.nil ?_
        exact Round2.mk x8 x9 [] [(26, 5)] h (LS.to.mk (.r rfl rfl (.r rfl rfl (.r rfl rfl (.b rfl rfl .n)))) (.b rfl rfl rfl (.b rfl rfl rfl .n)) rfl)
      · refine Wp.exit ?_
        exact Joined1.mk v3 [2, 3] [] h (LS.to.mk (.r rfl rfl .n) .n rfl)
theorem ref12_Bounds_ok {s : Shape} {p : Transform} {r : AABB} (h : ref12_Bounds s p = some r) : FnR Tryz.prog 43 [(Shape.av s), (Transform.av p)] (AABB.av r) := by
  refine FnR.intro' (fn := Tryz.f43) (N := 85) Tryz.func43 rfl rfl (Nat.le_of_ble_eq_true rfl) [2, 3, 4, 5, 6, 7, 11, 12, 16, 19, 23, 30, 38, 47, 55] ?_
  refine Wp.seq ?_
  refine Wp.region ?_
  refine GoT.a rfl (AEx.bx (Z := (Shape.cells s)) rfl (.tmp rfl) rfl rfl rfl rfl) rfl (lt_b rfl) ?_
  refine GoT.a rfl (AEx.bx (Z := (Transform.cells p)) rfl (.tmp rfl) rfl rfl rfl rfl) rfl (lt_b rfl) ?_
  refine GoT.a rfl (AEx.alZ rfl zt45 rfl rfl) rfl (lt_b rfl) ?_
  refine GoT.nil ?_
  refine bind_e h fun r1 hr1 h => ?_
  refine Wp.seq ?_
  refine Wp.region ?_
  refine GoT.qr rfl rfl (QEx.ldP (Shape.cells s) (Shape.av s) rfl ag33 ts33 (.tmp rfl) (le_b rfl) rfl) rfl (lt_b rfl) ?_
  refine GoT.qr rfl rfl (QEx.ldP (Transform.cells p) (Transform.av p) rfl ag26 ts26 (.tmp rfl) (le_b rfl) rfl) rfl (lt_b rfl) ?_
  refine GoT.c rfl (QEx.cal (r' := (slT 11 0 2 Vec.av r1)) [(Shape.av s), (Transform.av p)] rfl Tryz.call97 (.cons (.tmp rfl) (.cons (.tmp rfl) .nil)) (ref12_Vertices_ok hr1) rfl rfl rfl) rfl rfl (lt_b rfl) ?_
  refine GoT.q rfl (QEx.assign rfl (.tmp rfl)) rfl (lt_b rfl) ?_
  refine GoT.nil ?_
  refine Wp.seq ?_
  refine Wp.seq ?_
  refine Wp.region ?_
  refine GoT.q rfl (QEx.move rfl (.tmp rfl)) rfl (lt_b rfl) ?_
  refine GoT.q rfl (QEx.lenL rfl ⟨_, uT31⟩ (.tmp rfl)) rfl (lt_b rfl) ?_
  refine GoT.q rfl (QEx.eqlK rfl (.tmp rfl) .con) rfl (lt_b rfl) ?_
  refine GoT.nil ?_
  refine Wp.condS h rfl (fun h => ?_) (fun h => ?_)
  · refine let_e h fun x2 hx2 h => ?_
    refine Wp.seq ?_
    refine Wp.region ?_
    refine GoT.q rfl (QEx.as (AABB.av (⟨Vec.zero, Vec.zero⟩ : AABB)) (QEx.buildZ rfl uT45 zt45 (by kernel_rfl) .nil)) rfl (lt_b rfl) ?_
    refine GoT.s rfl (AEx.sto (Z := (AABB.cells x2)) rfl rfl ts45 (.tmp rfl) rfl (.tmp rfl) rfl rfl (le_b rfl) (congrArg (fun (x : AABB) => (AABB.cells x)) hx2)) rfl ?_
    refine GoT.nil ?_
    refine Wp.ret ?_
    cases h
    exact LeafQ.ret [] (by decide) (.cons (.agg rfl rfl ag45 ts45) .nil) rfl
  · refine Wp.skip ?_
    refine chk_e h fun c3 h => ?_
    refine let_e h fun x4 hx4 h => ?_
    refine Wp.seq ?_
    refine Wp.region ?_
    refine GoT.q rfl (QEx.move rfl (.tmp rfl)) rfl (lt_b rfl) ?_
    refine GoT.q rfl (QEx.as (.cptr (Vec.cells (ix r1 0))) (QEx.idxL (E := Vec.av) rfl et31 (.tmp rfl) .con c3)) rfl (lt_b rfl) ?_
    refine GoT.q rfl (QEx.ldC (x := (Vec.av (ix r1 0))) rfl ag24 ts24 (.tmp rfl) (.inl ⟨rfl, rfl, rfl⟩)) rfl (lt_b rfl) ?_
    refine GoT.a rfl (AEx.alZ rfl zt24 rfl rfl) rfl (lt_b rfl) ?_
    refine GoT.s rfl (AEx.sto (Z := (Vec.cells x4)) rfl rfl ts24 (.tmp rfl) rfl (.tmp rfl) rfl rfl (le_b rfl) (congrArg (fun (x : Vec) => (Vec.cells x)) hx4)) rfl ?_
    refine GoT.nil ?_
    refine chk_e h fun c5 h => ?_
    refine let_e h fun x6 hx6 h => ?_
    refine Wp.seq ?_
    refine Wp.region ?_
    refine GoT.q rfl (QEx.move rfl (.tmp rfl)) rfl (lt_b rfl) ?_
    refine GoT.q rfl (QEx.as (.cptr (Vec.cells (ix r1 0))) (QEx.idxL (E := Vec.av) rfl et31 (.tmp rfl) .con c5)) rfl (lt_b rfl) ?_
    refine GoT.q rfl (QEx.ldC (x := (Vec.av (ix r1 0))) rfl ag24 ts24 (.tmp rfl) (.inl ⟨rfl, rfl, rfl⟩)) rfl (lt_b rfl) ?_
    refine GoT.a rfl (AEx.alZ rfl zt24 rfl rfl) rfl (lt_b rfl) ?_
    refine GoT.s rfl (AEx.sto (Z := (Vec.cells x6)) rfl rfl ts24 (.tmp rfl) rfl (.tmp rfl) rfl rfl (le_b rfl) (congrArg (fun (x : Vec) => (Vec.cells x)) hx6)) rfl ?_
    refine GoT.nil ?_
    refine Wp.join2 (fun v7 v8 => ⟨[(2, (.ptr 2 0)), (4, (.ptr 4 0)), (6, (.ptr 6 0)), (7, (.ptr 7 0))], [(2, .cells (Shape.cells s)), (4, .cells (AABB.cells AABB.zero)), (6, .cells (Vec.cells v7)), (7, .cells (Vec.cells v8))], [3, 5, 11, 12, 16, 19, 23, 30, 38, 47, 55]⟩) (fun v7 v8 => (ref12_Bounds_j2 s) v7 v8 = some r) ?_ ?_
    · intro v7 v8 h
      refine let_e h fun r19 hr19 h => ?_
      refine let_e h fun r20 hr20 h => ?_
      refine let_e h fun r21 hr21 h => ?_
      refine let_e h fun r22 hr22 h => ?_
      refine let_e h fun x23 hx23 h => ?_
      refine Wp.seq ?_
      refine Wp.drawn2 (n0 := 24) [3, 5, 11, 12, 16, 19, 23, 30, 38, 47, 55] mixed ?_
      refine GoD.q rfl (QEx.fldP 0 rfl uT24 rfl ts3 rfl (.tmp rfl) rfl) rfl (lt_b rfl) ?_
      refine GoD.qr rfl rfl (QEx.ldP1 (Vec.cells v7) (iAV v7.X) rfl ag3 (.tmp rfl) rfl) rfl (lt_b rfl) ?_
      refine GoD.q rfl (QEx.fldP 1 rfl uT33 rfl ts3 rfl (.tmp rfl) rfl) rfl (lt_b rfl) ?_
      refine GoD.qr rfl rfl (QEx.ldP1 (Shape.cells s) (iAV s.Radius) rfl ag3 (.tmp rfl) rfl) rfl (lt_b rfl) ?_
      refine GoD.q rfl (QEx.cal0 (r := (iAV r19)) [(iAV v7.X), (iAV s.Radius)] rfl Tryz.call98 (.cons (.tmp rfl) (.cons (.tmp rfl) .nil)) (ref01_Sub_ok hr19) rfl rfl) rfl (lt_b rfl) ?_
      refine GoD.q rfl (QEx.fldP 1 rfl uT24 rfl ts3 rfl (.tmp rfl) rfl) rfl (lt_b rfl) ?_
      refine GoD.qr rfl rfl (QEx.ldP1 (Vec.cells v7) (iAV v7.Y) rfl ag3 (.tmp rfl) rfl) rfl (lt_b rfl) ?_
      refine GoD.q rfl (QEx.fldP 1 rfl uT33 rfl ts3 rfl (.tmp rfl) rfl) rfl (lt_b rfl) ?_
      refine GoD.qr rfl rfl (QEx.ldP1 (Shape.cells s) (iAV s.Radius) rfl ag3 (.tmp rfl) rfl) rfl (lt_b rfl) ?_
      refine GoD.q rfl (QEx.cal0 (r := (iAV r20)) [(iAV v7.Y), (iAV s.Radius)] rfl Tryz.call98 (.cons (.tmp rfl) (.cons (.tmp rfl) .nil)) (ref01_Sub_ok hr20) rfl rfl) rfl (lt_b rfl) ?_
      refine GoD.q rfl (QEx.as (Vec.av (⟨r19, r20⟩ : Vec)) (QEx.buildZ rfl uT24 zt24 (by kernel_rfl) (.cons rfl (.tmp rfl) rfl rfl (le_b rfl) (.cons rfl (.tmp rfl) rfl rfl (le_b rfl) .nil)))) rfl (lt_b rfl) ?_
      refine GoD.q rfl (QEx.fldP 0 rfl uT24 rfl ts3 rfl (.tmp rfl) rfl) rfl (lt_b rfl) ?_
      refine GoD.qr rfl rfl (QEx.ldP1 (Vec.cells v8) (iAV v8.X) rfl ag3 (.tmp rfl) rfl) rfl (lt_b rfl) ?_
      refine GoD.q rfl (QEx.fldP 1 rfl uT33 rfl ts3 rfl (.tmp rfl) rfl) rfl (lt_b rfl) ?_
      refine GoD.qr rfl rfl (QEx.ldP1 (Shape.cells s) (iAV s.Radius) rfl ag3 (.tmp rfl) rfl) rfl (lt_b rfl) ?_
      refine GoD.q rfl (QEx.cal0 (r := (iAV r21)) [(iAV v8.X), (iAV s.Radius)] rfl Tryz.call68 (.cons (.tmp rfl) (.cons (.tmp rfl) .nil)) (ref01_Add_ok hr21) rfl rfl) rfl (lt_b rfl) ?_
      refine GoD.q rfl (QEx.fldP 1 rfl uT24 rfl ts3 rfl (.tmp rfl) rfl) rfl (lt_b rfl) ?_
      refine GoD.qr rfl rfl (QEx.ldP1 (Vec.cells v8) (iAV v8.Y) rfl ag3 (.tmp rfl) rfl) rfl (lt_b rfl) ?_
      refine GoD.q rfl (QEx.fldP 1 rfl uT33 rfl ts3 rfl (.tmp rfl) rfl) rfl (lt_b rfl) ?_
      refine GoD.qr rfl rfl (QEx.ldP1 (Shape.cells s) (iAV s.Radius) rfl ag3 (.tmp rfl) rfl) rfl (lt_b rfl) ?_
      refine GoD.q rfl (QEx.cal0 (r := (iAV r22)) [(iAV v8.Y), (iAV s.Radius)] rfl Tryz.call68 (.cons (.tmp rfl) (.cons (.tmp rfl) .nil)) (ref01_Add_ok hr22) rfl rfl) rfl (lt_b rfl) ?_
      refine GoD.q rfl (QEx.as (Vec.av (⟨r21, r22⟩ : Vec)) (QEx.buildZ rfl uT24 zt24 (by kernel_rfl) (.cons rfl (.tmp rfl) rfl rfl (le_b rfl) (.cons rfl (.tmp rfl) rfl rfl (le_b rfl) .nil)))) rfl (lt_b rfl) ?_
      refine GoD.q rfl (QEx.as (AABB.av (⟨(⟨r19, r20⟩ : Vec), (⟨r21, r22⟩ : Vec)⟩ : AABB)) (QEx.buildZ rfl uT45 zt45 (by kernel_rfl) (.cons rfl (.tmp rfl) rfl rfl (le_b rfl) (.cons rfl (.tmp rfl) rfl rfl (le_b rfl) .nil)))) rfl (lt_b rfl) ?_
      refine GoD.s rfl (Z := (AABB.cells x23)) rfl rfl ts45 (.tmp rfl) rfl (.tmp rfl) rfl rfl (le_b rfl) (congrArg (fun (x : AABB) => (AABB.cells x)) hx23) ?_
      refine GoD.nil ⟨by kernel_rfl, by kernel_rfl, by kernel_rfl, by kernel_rfl, by kernel_rfl, ?_⟩
      refine GoT.nil ?_
      refine Wp.ret ?_
      cases h
      exact LeafQ.ret [] (by decide) (.cons (.agg rfl rfl ag45 ts45) .nil) rfl
    · refine Wp.seq ?_
      refine Wp.region ?_
      refine GoT.q rfl (QEx.as (iAV 0) (QEx.assign rfl .con)) rfl (lt_b rfl) ?_
      refine GoT.nil ?_
      refine Wp.block ?_
      refine Wp.loop3 (fun v9 v10 v11 => ⟨[(2, (.ptr 2 0)), (4, (.ptr 4 0)), (5, (slT 11 0 2 Vec.av r1)), (6, (.ptr 6 0)), (7, (.ptr 7 0)), (8, (iAV v9))], [(2, .cells (Shape.cells s)), (4, .cells (AABB.cells AABB.zero)), (6, .cells (Vec.cells v10)), (7, .cells (Vec.cells v11))], [3, 5, 12, 16, 19, 23, 30, 38, 47, 55]⟩) (fun n v9 v10 v11 => ref12_Bounds_l1 r1 (ref12_Bounds_j2 s) n v9 v10 v11 = some r) fuel 0 x4 x6 [3] [] h (LS.to.mk (.r rfl rfl (.r rfl rfl (.r rfl rfl (.r rfl rfl (.r rfl rfl (.b rfl rfl .n)))))) (.b rfl rfl rfl (.b rfl rfl rfl (.b rfl rfl rfl (.b rfl rfl rfl .n)))) rfl) ?_
      rintro (_ | n2) v9 v10 v11 h
      · exact none_e h
      rw [ref12_Bounds_l1] at h
      refine Wp.seq ?_
      refine Wp.seq ?_
      refine Wp.region ?_
      refine GoT.q rfl (QEx.move rfl (.tmp rfl)) rfl (lt_b rfl) ?_
      refine GoT.q rfl (QEx.move rfl (.tmp rfl)) rfl (lt_b rfl) ?_
      refine GoT.q rfl (QEx.lenL rfl ⟨_, uT31⟩ (.tmp rfl)) rfl (lt_b rfl) ?_
      refine GoT.q rfl (QEx.lssK rfl (.tmp rfl) (.tmp rfl)) rfl (lt_b rfl) ?_
      refine GoT.nil ?_
      refine Wp.condS h rfl (fun h => ?_) (fun h => ?_)
      · refine Wp.skip ?_
        refine Wp.seq ?_
        refine Wp.block ?_
        refine chk_e h fun c12 h => ?_
        refine chk_e h fun c13 h => ?_
        refine let_e h fun x14 hx14 h => ?_
        refine Wp.seq ?_
        refine Wp.drawn2 (n0 := 18) [3, 5, 12, 16, 19, 23, 30, 38, 47, 55] mixed ?_
        refine GoD.q rfl (QEx.fldP 0 rfl uT24 rfl ts3 rfl (.tmp rfl) rfl) rfl (lt_b rfl) ?_
        refine GoD.qr rfl rfl (QEx.ldP1 (Vec.cells v10) (iAV v10.X) rfl ag3 (.tmp rfl) rfl) rfl (lt_b rfl) ?_
        refine GoD.q rfl (QEx.move rfl (.tmp rfl)) rfl (lt_b rfl) ?_
        refine GoD.q rfl (QEx.move rfl (.tmp rfl)) rfl (lt_b rfl) ?_
        refine GoD.q rfl (QEx.as (.cptr (Vec.cells (ix r1 v9))) (QEx.idxL (E := Vec.av) rfl et31 (.tmp rfl) (.tmp rfl) c12)) rfl (lt_b rfl) ?_
        refine GoD.q rfl (QEx.fldC [(iAV ((ix r1 v9).X))] rfl uT24 rfl ts3 rfl (.tmp rfl) rfl) rfl (lt_b rfl) ?_
        refine GoD.q rfl (QEx.ldC (x := (iAV ((ix r1 v9).X))) rfl ag3 ts3 (.tmp rfl) (.inr ⟨rfl, rfl⟩)) rfl (lt_b rfl) ?_
        refine GoD.q rfl (QEx.minK rfl (.tmp rfl) (.tmp rfl)) rfl (lt_b rfl) ?_
        refine GoD.q rfl (QEx.fldP 1 rfl uT24 rfl ts3 rfl (.tmp rfl) rfl) rfl (lt_b rfl) ?_
        refine GoD.qr rfl rfl (QEx.ldP1 (Vec.cells v10) (iAV v10.Y) rfl ag3 (.tmp rfl) rfl) rfl (lt_b rfl) ?_
        refine GoD.q rfl (QEx.move rfl (.tmp rfl)) rfl (lt_b rfl) ?_
        refine GoD.q rfl (QEx.move rfl (.tmp rfl)) rfl (lt_b rfl) ?_
        refine GoD.q rfl (QEx.as (.cptr (Vec.cells (ix r1 v9))) (QEx.idxL (E := Vec.av) rfl et31 (.tmp rfl) (.tmp rfl) c13)) rfl (lt_b rfl) ?_
        refine GoD.q rfl (QEx.fldC [(iAV ((ix r1 v9).Y))] rfl uT24 rfl ts3 rfl (.tmp rfl) rfl) rfl (lt_b rfl) ?_
        refine GoD.q rfl (QEx.ldC (x := (iAV ((ix r1 v9).Y))) rfl ag3 ts3 (.tmp rfl) (.inr ⟨rfl, rfl⟩)) rfl (lt_b rfl) ?_
        refine GoD.q rfl (QEx.minK rfl (.tmp rfl) (.tmp rfl)) rfl (lt_b rfl) ?_
        refine GoD.q rfl (QEx.as (Vec.av (⟨(min v10.X ((ix r1 v9).X)), (min v10.Y ((ix r1 v9).Y))⟩ : Vec)) (QEx.buildZ rfl uT24 zt24 (by kernel_rfl) (.cons rfl (.tmp rfl) rfl rfl (le_b rfl) (.cons rfl (.tmp rfl) rfl rfl (le_b rfl) .nil)))) rfl (lt_b rfl) ?_
        refine GoD.s rfl (Z := (Vec.cells x14)) rfl rfl ts24 (.tmp rfl) rfl (.tmp rfl) rfl rfl (le_b rfl) (congrArg (fun (x : Vec) => (Vec.cells x)) hx14) ?_
        refine GoD.nil ⟨by kernel_rfl, by kernel_rfl, by kernel_rfl, by kernel_rfl, by kernel_rfl, ?_⟩
        refine GoT.nil ?_
        refine chk_e h fun c15 h => ?_
        refine chk_e h fun c16 h => ?_
        refine let_e h fun x17 hx17 h => ?_
        refine Wp.drawn2 (n0 := 18) [3, 5, 12, 16, 19, 23, 30, 38, 47, 55] mixed ?_
        refine GoD.q rfl (QEx.fldP 0 rfl uT24 rfl ts3 rfl (.tmp rfl) rfl) rfl (lt_b rfl) ?_
        refine GoD.qr rfl rfl (QEx.ldP1 (Vec.cells v11) (iAV v11.X) rfl ag3 (.tmp rfl) rfl) rfl (lt_b rfl) ?_
        refine GoD.q rfl (QEx.move rfl (.tmp rfl)) rfl (lt_b rfl) ?_
        refine GoD.q rfl (QEx.move rfl (.tmp rfl)) rfl (lt_b rfl) ?_
        refine GoD.q rfl (QEx.as (.cptr (Vec.cells (ix r1 v9))) (QEx.idxL (E := Vec.av) rfl et31 (.tmp rfl) (.tmp rfl) c15)) rfl (lt_b rfl) ?_
        refine GoD.q rfl (QEx.fldC [(iAV ((ix r1 v9).X))] rfl uT24 rfl ts3 rfl (.tmp rfl) rfl) rfl (lt_b rfl) ?_
        refine GoD.q rfl (QEx.ldC (x := (iAV ((ix r1 v9).X))) rfl ag3 ts3 (.tmp rfl) (.inr ⟨rfl, rfl⟩)) rfl (lt_b rfl) ?_
        refine GoD.q rfl (QEx.maxK rfl (.tmp rfl) (.tmp rfl)) rfl (lt_b rfl) ?_
        refine GoD.q rfl (QEx.fldP 1 rfl uT24 rfl ts3 rfl (.tmp rfl) rfl) rfl (lt_b rfl) ?_
        refine GoD.qr rfl rfl (QEx.ldP1 (Vec.cells v11) (iAV v11.Y) rfl ag3 (.tmp rfl) rfl) rfl (lt_b rfl) ?_
        refine GoD.q rfl (QEx.move rfl (.tmp rfl)) rfl (lt_b rfl) ?_
        refine GoD.q rfl (QEx.move rfl (.tmp rfl)) rfl (lt_b rfl) ?_
        refine GoD.q rfl (QEx.as (.cptr (Vec.cells (ix r1 v9))) (QEx.idxL (E := Vec.av) rfl et31 (.tmp rfl) (.tmp rfl) c16)) rfl (lt_b rfl) ?_
        refine GoD.q rfl (QEx.fldC [(iAV ((ix r1 v9).Y))] rfl uT24 rfl ts3 rfl (.tmp rfl) rfl) rfl (lt_b rfl) ?_
        refine GoD.q rfl (QEx.ldC (x := (iAV ((ix r1 v9).Y))) rfl ag3 ts3 (.tmp rfl) (.inr ⟨rfl, rfl⟩)) rfl (lt_b rfl) ?_
        refine GoD.q rfl (QEx.maxK rfl (.tmp rfl) (.tmp rfl)) rfl (lt_b rfl) ?_
        refine GoD.q rfl (QEx.as (Vec.av (⟨(max v11.X ((ix r1 v9).X)), (max v11.Y ((ix r1 v9).Y))⟩ : Vec)) (QEx.buildZ rfl uT24 zt24 (by kernel_rfl) (.cons rfl (.tmp rfl) rfl rfl (le_b rfl) (.cons rfl (.tmp rfl) rfl rfl (le_b rfl) .nil)))) rfl (lt_b rfl) ?_
        refine GoD.s rfl (Z := (Vec.cells x17)) rfl rfl ts24 (.tmp rfl) rfl (.tmp rfl) rfl rfl (le_b rfl) (congrArg (fun (x : Vec) => (Vec.cells x)) hx17) ?_
        refine GoD.nil ⟨by kernel_rfl, by kernel_rfl, by kernel_rfl, by kernel_rfl, by kernel_rfl, ?_⟩
        refine GoT.nil ?_
        refine let_e h fun x18 hx18 h => ?_
        refine Wp.region ?_
        refine GoT.q rfl (QEx.move rfl (.tmp rfl)) rfl (lt_b rfl) ?_
        refine GoT.q rfl (QEx.addK rfl (.tmp rfl) .con) rfl (lt_b rfl) ?_
        refine GoT.q rfl (QEx.eq (QEx.assign rfl (.tmp rfl)) (congrArg iAV hx18)) rfl (lt_b rfl) ?_
        refine GoT.nil ?_
        exact Round3.mk x18 x14 x17 [] [] h (LS.to.mk (.r rfl rfl (.r rfl rfl (.r rfl rfl (.r rfl rfl (.r rfl rfl (.b rfl rfl .n)))))) (.b rfl rfl rfl (.b rfl rfl rfl (.b rfl rfl rfl (.b rfl rfl rfl .n)))) rfl)
      · refine Wp.exit ?_
        exact Joined2.mk v10 v11 [11] [] h (LS.to.mk (.r rfl rfl (.r rfl rfl (.r rfl rfl (.r rfl rfl .n)))) (.b rfl rfl rfl (.b rfl rfl rfl (.b rfl rfl rfl (.b rfl rfl rfl .n)))) rfl)
theorem ref05_SaturateVec_ok {v_0 : Vec} {r : Vec} (h : ref05_SaturateVec v_0 = r) : FnR Tryz.prog 138 [(Vec.av v_0)] (Vec.av r) := by
  refine FnR.intro' (fn := Tryz.f138) (N := 10) Tryz.func138 rfl rfl (Nat.le_of_ble_eq_true rfl) [1, 2] ?_
  refine Wp.seq ?_
  refine Wp.region ?_
  refine GoT.a rfl (AEx.bx (Z := (Vec.cells v_0)) rfl (.tmp rfl) rfl rfl rfl rfl) rfl (lt_b rfl) ?_
  refine GoT.a rfl (AEx.alZ rfl zt24 rfl rfl) rfl (lt_b rfl) ?_
  refine GoT.nil ?_
  refine let_e h fun r1 hr1 h => ?_
  refine let_e h fun r2 hr2 h => ?_
  refine let_e h fun x3 hx3 h => ?_
  refine Wp.seq ?_
  refine Wp.drawn2 (n0 := 8) [] mixed ?_
  refine GoD.q rfl (QEx.fldP 0 rfl uT24 rfl ts3 rfl (.tmp rfl) rfl) rfl (lt_b rfl) ?_
  refine GoD.qr rfl rfl (QEx.ldP1 (Vec.cells v_0) (iAV v_0.X) rfl ag3 (.tmp rfl) rfl) rfl (lt_b rfl) ?_
  refine GoD.q rfl (QEx.cal0 (r := (iAV r1)) [(iAV v_0.X)] rfl Tryz.call121 (.cons (.tmp rfl) .nil) (ref01_Saturate_ok hr1) rfl rfl) rfl (lt_b rfl) ?_
  refine GoD.q rfl (QEx.fldP 1 rfl uT24 rfl ts3 rfl (.tmp rfl) rfl) rfl (lt_b rfl) ?_
  refine GoD.qr rfl rfl (QEx.ldP1 (Vec.cells v_0) (iAV v_0.Y) rfl ag3 (.tmp rfl) rfl) rfl (lt_b rfl) ?_
  refine GoD.q rfl (QEx.cal0 (r := (iAV r2)) [(iAV v_0.Y)] rfl Tryz.call121 (.cons (.tmp rfl) .nil) (ref01_Saturate_ok hr2) rfl rfl) rfl (lt_b rfl) ?_
  refine GoD.q rfl (QEx.as (Vec.av (⟨r1, r2⟩ : Vec)) (QEx.buildZ rfl uT24 zt24 (by kernel_rfl) (.cons rfl (.tmp rfl) rfl rfl (le_b rfl) (.cons rfl (.tmp rfl) rfl rfl (le_b rfl) .nil)))) rfl (lt_b rfl) ?_
  refine GoD.s rfl (Z := (Vec.cells x3)) rfl rfl ts24 (.tmp rfl) rfl (.tmp rfl) rfl rfl (le_b rfl) (congrArg (fun (x : Vec) => (Vec.cells x)) hx3) ?_
  refine GoD.nil ⟨by kernel_rfl, by kernel_rfl, by kernel_rfl, by kernel_rfl, by kernel_rfl, ?_⟩
  refine GoT.nil ?_
  refine Wp.ret ?_
  cases h
  exact LeafQ.ret [] (by decide) (.cons (.agg rfl rfl ag24 ts24) .nil) rfl
theorem ref05_Valid_ok {b : AABB} {r : Bool} (h : ref05_Valid b = r) : FnR Tryz.prog 99 [(AABB.av b)] (boolAV r) := by
  refine FnR.intro' (fn := Tryz.f99) (N := 35) Tryz.func99 rfl rfl (Nat.le_of_ble_eq_true rfl) [1] ?_
  refine Wp.seq ?_
  refine Wp.region ?_
  refine GoT.a rfl (AEx.bx (Z := (AABB.cells b)) rfl (.tmp rfl) rfl rfl rfl rfl) rfl (lt_b rfl) ?_
  refine GoT.q rfl (QEx.as (boolAV false) (QEx.assign rfl .con)) rfl (lt_b rfl) ?_
  refine GoT.nil ?_
  refine let_e h fun r1 hr1 h => ?_
  refine let_e h fun r2 hr2 h => ?_
  refine let_e h fun x3 hx3 h => ?_
  refine Wp.seq ?_
  refine Wp.drawn2 (n0 := 33) [] mixed ?_
  refine GoD.q rfl (QEx.fldP 0 rfl uT45 rfl ts24 rfl (.tmp rfl) rfl) rfl (lt_b rfl) ?_
  refine GoD.q rfl (QEx.fldP 0 rfl uT24 rfl ts3 rfl (.tmp rfl) rfl) rfl (lt_b rfl) ?_
  refine GoD.qr rfl rfl (QEx.ldP1 (AABB.cells b) (iAV b.Min.X) rfl ag3 (.tmp rfl) rfl) rfl (lt_b rfl) ?_
  refine GoD.q rfl (QEx.fldP 2 rfl uT45 rfl ts24 rfl (.tmp rfl) rfl) rfl (lt_b rfl) ?_
  refine GoD.q rfl (QEx.fldP 2 rfl uT24 rfl ts3 rfl (.tmp rfl) rfl) rfl (lt_b rfl) ?_
  refine GoD.qr rfl rfl (QEx.ldP1 (AABB.cells b) (iAV b.Max.X) rfl ag3 (.tmp rfl) rfl) rfl (lt_b rfl) ?_
  refine GoD.q rfl (QEx.leqK rfl (.tmp rfl) (.tmp rfl)) rfl (lt_b rfl) ?_
  refine GoD.q rfl (QEx.move rfl (.tmp rfl)) rfl (lt_b rfl) ?_
  refine GoD.g rfl rfl rfl (fun hg => QEx.fldP 0 rfl uT45 rfl ts24 rfl (.tmp rfl) rfl) rfl (lt_b rfl) ?_
  refine GoD.g rfl rfl rfl (fun hg => QEx.fldP 1 rfl uT24 rfl ts3 rfl (.opt (.tmp rfl) hg) rfl) rfl (lt_b rfl) ?_
  refine GoD.gr rfl rfl rfl rfl (fun hg => QEx.ldP1 (AABB.cells b) (iAV b.Min.Y) rfl ag3 (.opt (.tmp rfl) hg) rfl) rfl (lt_b rfl) ?_
  refine GoD.g rfl rfl rfl (fun hg => QEx.fldP 2 rfl uT45 rfl ts24 rfl (.tmp rfl) rfl) rfl (lt_b rfl) ?_
  refine GoD.g rfl rfl rfl (fun hg => QEx.fldP 3 rfl uT24 rfl ts3 rfl (.opt (.tmp rfl) hg) rfl) rfl (lt_b rfl) ?_
  refine GoD.gr rfl rfl rfl rfl (fun hg => QEx.ldP1 (AABB.cells b) (iAV b.Max.Y) rfl ag3 (.opt (.tmp rfl) hg) rfl) rfl (lt_b rfl) ?_
  refine GoD.g rfl rfl rfl (fun hg => QEx.leqK rfl (.opt (.tmp rfl) hg) (.opt (.tmp rfl) hg)) rfl (lt_b rfl) ?_
  refine GoD.q rfl (QEx.pickK rfl (.tmp rfl) (fun hp => (.opt (.tmp rfl) (beq_t hp))) (fun hp => .con)) rfl (lt_b rfl) ?_
  refine GoD.q rfl (QEx.move rfl (.tmp rfl)) rfl (lt_b rfl) ?_
  refine GoD.g rfl rfl rfl (fun hg => QEx.fldP 0 rfl uT45 rfl ts24 rfl (.tmp rfl) rfl) rfl (lt_b rfl) ?_
  refine GoD.gr rfl rfl rfl rfl (fun hg => QEx.ldP (AABB.cells b) (Vec.av b.Min) rfl ag24 ts24 (.opt (.tmp rfl) hg) (le_b rfl) rfl) rfl (lt_b rfl) ?_
  refine GoD.g rfl rfl rfl (fun hg => QEx.fldP 0 rfl uT45 rfl ts24 rfl (.tmp rfl) rfl) rfl (lt_b rfl) ?_
  refine GoD.gr rfl rfl rfl rfl (fun hg => QEx.ldP (AABB.cells b) (Vec.av b.Min) rfl ag24 ts24 (.opt (.tmp rfl) hg) (le_b rfl) rfl) rfl (lt_b rfl) ?_
  refine GoD.g rfl rfl rfl (fun hg => QEx.cal0 (r := (Vec.av r1)) [(Vec.av b.Min)] rfl Tryz.call138 (.cons (.opt (.tmp rfl) hg) .nil) (ref05_SaturateVec_ok hr1) rfl rfl) rfl (lt_b rfl) ?_
  refine GoD.g rfl rfl rfl (fun hg => QEx.eqlA rfl eq24 (.opt (.tmp rfl) hg) (.opt (.tmp rfl) hg)) rfl (lt_b rfl) ?_
  refine GoD.q rfl (QEx.pickK rfl (.tmp rfl) (fun hp => (.opt (.tmp rfl) (beq_t hp))) (fun hp => .con)) rfl (lt_b rfl) ?_
  refine GoD.q rfl (QEx.move rfl (.tmp rfl)) rfl (lt_b rfl) ?_
  refine GoD.g rfl rfl rfl (fun hg => QEx.fldP 2 rfl uT45 rfl ts24 rfl (.tmp rfl) rfl) rfl (lt_b rfl) ?_
  refine GoD.gr rfl rfl rfl rfl (fun hg => QEx.ldP (AABB.cells b) (Vec.av b.Max) rfl ag24 ts24 (.opt (.tmp rfl) hg) (le_b rfl) rfl) rfl (lt_b rfl) ?_
  refine GoD.g rfl rfl rfl (fun hg => QEx.fldP 2 rfl uT45 rfl ts24 rfl (.tmp rfl) rfl) rfl (lt_b rfl) ?_
  refine GoD.gr rfl rfl rfl rfl (fun hg => QEx.ldP (AABB.cells b) (Vec.av b.Max) rfl ag24 ts24 (.opt (.tmp rfl) hg) (le_b rfl) rfl) rfl (lt_b rfl) ?_
  refine GoD.g rfl rfl rfl (fun hg => QEx.cal0 (r := (Vec.av r2)) [(Vec.av b.Max)] rfl Tryz.call138 (.cons (.opt (.tmp rfl) hg) .nil) (ref05_SaturateVec_ok hr2) rfl rfl) rfl (lt_b rfl) ?_
  refine GoD.g rfl rfl rfl (fun hg => QEx.eqlA rfl eq24 (.opt (.tmp rfl) hg) (.opt (.tmp rfl) hg)) rfl (lt_b rfl) ?_
  refine GoD.q rfl (QEx.pickK rfl (.tmp rfl) (fun hp => (.opt (.tmp rfl) (beq_t hp))) (fun hp => .con)) rfl (lt_b rfl) ?_
  refine GoD.q rfl (QEx.eq (QEx.assign rfl (.tmp rfl)) (congrArg boolAV hx3)) rfl (lt_b rfl) ?_
  refine GoD.nil ⟨by kernel_rfl, by kernel_rfl, by kernel_rfl, by kernel_rfl, by kernel_rfl, ?_⟩
  refine GoT.nil ?_
  refine Wp.ret ?_
  cases h
  exact LeafQ.ret [] (by decide) (.cons (.tmp rfl) .nil) rfl
theorem ref05_FromPoints_ok {points : List Vec} {r : AABB × Bool} (h : ref05_FromPoints points = some r) : FnR Tryz.prog 100 [((slAV 2 Vec.av) points)] (.tup [(AABB.av r.1), (boolAV r.2)]) := by
  refine FnR.intro' (fn := Tryz.f100) (N := 58) Tryz.func100 rfl rfl (Nat.le_of_ble_eq_true rfl) [2, 4, 5, 7, 8, 12, 20, 25] ?_
  refine Wp.seq ?_
  refine Wp.region ?_
  refine GoT.a rfl (AEx.alZ rfl zt45 rfl rfl) rfl (lt_b rfl) ?_
  refine GoT.q rfl (QEx.as (boolAV false) (QEx.assign rfl .con)) rfl (lt_b rfl) ?_
  refine GoT.nil ?_
  refine Wp.seq ?_
  refine Wp.seq ?_
  refine Wp.region ?_
  refine GoT.q rfl (QEx.move rfl (.tmp rfl)) rfl (lt_b rfl) ?_
  refine GoT.q rfl (QEx.lenL rfl ⟨_, uT31⟩ (.tmp rfl)) rfl (lt_b rfl) ?_
  refine GoT.q rfl (QEx.eqlK rfl (.tmp rfl) .con) rfl (lt_b rfl) ?_
  refine GoT.nil ?_
  refine Wp.condS h rfl (fun h => ?_) (fun h => ?_)
  · refine let_e h fun x1 hx1 h => ?_
    refine Wp.seq ?_
    refine Wp.region ?_
    refine GoT.q rfl (QEx.as (AABB.av (⟨Vec.zero, Vec.zero⟩ : AABB)) (QEx.buildZ rfl uT45 zt45 (by kernel_rfl) .nil)) rfl (lt_b rfl) ?_
    refine GoT.s rfl (AEx.sto (Z := (AABB.cells x1)) rfl rfl ts45 (.tmp rfl) rfl (.tmp rfl) rfl rfl (le_b rfl) (congrArg (fun (x : AABB) => (AABB.cells x)) hx1)) rfl ?_
    refine GoT.q rfl (QEx.as (boolAV false) (QEx.assign rfl .con)) rfl (lt_b rfl) ?_
    refine GoT.nil ?_
    refine Wp.ret ?_
    cases h
    exact LeafQ.ret [] (by decide) (.cons (.agg rfl rfl ag45 ts45) (.cons (.tmp rfl) .nil)) rfl
  · refine Wp.skip ?_
    refine chk_e h fun c2 h => ?_
    refine let_e h fun r3 hr3 h => ?_
    refine let_e h fun x4 hx4 h => ?_
    refine Wp.seq ?_
    refine Wp.region ?_
    refine GoT.q rfl (QEx.move rfl (.tmp rfl)) rfl (lt_b rfl) ?_
    refine GoT.q rfl (QEx.as (.cptr (Vec.cells (ix points 0))) (QEx.idxL (E := Vec.av) rfl et31 (.tmp rfl) .con c2)) rfl (lt_b rfl) ?_
    refine GoT.q rfl (QEx.ldC (x := (Vec.av (ix points 0))) rfl ag24 ts24 (.tmp rfl) (.inl ⟨rfl, rfl, rfl⟩)) rfl (lt_b rfl) ?_
    refine GoT.q rfl (QEx.cal0 (r := (Vec.av r3)) [(Vec.av (ix points 0))] rfl Tryz.call138 (.cons (.tmp rfl) .nil) (ref05_SaturateVec_ok hr3) rfl rfl) rfl (lt_b rfl) ?_
    refine GoT.a rfl (AEx.alZ rfl zt24 rfl rfl) rfl (lt_b rfl) ?_
    refine GoT.s rfl (AEx.sto (Z := (Vec.cells x4)) rfl rfl ts24 (.tmp rfl) rfl (.tmp rfl) rfl rfl (le_b rfl) (congrArg (fun (x : Vec) => (Vec.cells x)) hx4)) rfl ?_
    refine GoT.nil ?_
    refine let_e h fun x5 hx5 h => ?_
    refine Wp.seq ?_
    refine Wp.region ?_
    refine GoT.qr rfl rfl (QEx.ldP (Vec.cells x4) (Vec.av x4) rfl ag24 ts24 (.tmp rfl) (le_b rfl) rfl) rfl (lt_b rfl) ?_
    refine GoT.qr rfl rfl (QEx.ldP (Vec.cells x4) (Vec.av x4) rfl ag24 ts24 (.tmp rfl) (le_b rfl) rfl) rfl (lt_b rfl) ?_
    refine GoT.q rfl (QEx.as (AABB.av (⟨x4, x4⟩ : AABB)) (QEx.buildZ rfl uT45 zt45 (by kernel_rfl) (.cons rfl (.tmp rfl) rfl rfl (le_b rfl) (.cons rfl (.tmp rfl) rfl rfl (le_b rfl) .nil)))) rfl (lt_b rfl) ?_
    refine GoT.a rfl (AEx.alZ rfl zt45 rfl rfl) rfl (lt_b rfl) ?_
    refine GoT.s rfl (AEx.sto (Z := (AABB.cells x5)) rfl rfl ts45 (.tmp rfl) rfl (.tmp rfl) rfl rfl (le_b rfl) (congrArg (fun (x : AABB) => (AABB.cells x)) hx5)) rfl ?_
    refine GoT.nil ?_
    refine Wp.join1 (fun v6 => ⟨[(2, (.ptr 2 0)), (5, (.ptr 5 0))], [(2, .cells (AABB.cells AABB.zero)), (5, .cells (AABB.cells v6))], [4, 7, 8, 12, 20, 25]⟩) (fun v6 => ref05_FromPoints_j2 v6 = some r) ?_ ?_
    · intro v6 h
      refine let_e h fun x14 hx14 h => ?_
      refine Wp.seq ?_
      refine Wp.region ?_
      refine GoT.qr rfl rfl (QEx.ldP (AABB.cells v6) (AABB.av v6) rfl ag45 ts45 (.tmp rfl) (le_b rfl) rfl) rfl (lt_b rfl) ?_
      refine GoT.s rfl (AEx.sto (Z := (AABB.cells x14)) rfl rfl ts45 (.tmp rfl) rfl (.tmp rfl) rfl rfl (le_b rfl) (congrArg (fun (x : AABB) => (AABB.cells x)) hx14)) rfl ?_
      refine GoT.q rfl (QEx.as (boolAV true) (QEx.assign rfl .con)) rfl (lt_b rfl) ?_
      refine GoT.nil ?_
      refine Wp.ret ?_
      cases h
      exact LeafQ.ret [] (by decide) (.cons (.agg rfl rfl ag45 ts45) (.cons (.tmp rfl) .nil)) rfl
    · refine Wp.seq ?_
      refine Wp.region ?_
      refine GoT.q rfl (QEx.as (iAV 1) (QEx.assign rfl .con)) rfl (lt_b rfl) ?_
      refine GoT.nil ?_
      refine Wp.block ?_
      refine Wp.loop2 (fun v7 v8 => ⟨[(0, ((slAV 2 Vec.av) points)), (2, (.ptr 2 0)), (5, (.ptr 5 0)), (6, (iAV v7))], [(2, .cells (AABB.cells AABB.zero)), (5, .cells (AABB.cells v8))], [4, 7, 8, 12, 20, 25]⟩) (fun n v7 v8 => ref05_FromPoints_l1 points ref05_FromPoints_j2 n v7 v8 = some r) fuel 1 x5 [4] [] h (LS.to.mk (.b rfl rfl (.r rfl rfl (.r rfl rfl (.b rfl rfl .n)))) (.b rfl rfl rfl (.b rfl rfl rfl .n)) rfl) ?_
      rintro (_ | n2) v7 v8 h
      · exact none_e h
      rw [ref05_FromPoints_l1] at h
      refine Wp.seq ?_
      refine Wp.seq ?_
      refine Wp.region ?_
      refine GoT.q rfl (QEx.move rfl (.tmp rfl)) rfl (lt_b rfl) ?_
      refine GoT.q rfl (QEx.move rfl (.tmp rfl)) rfl (lt_b rfl) ?_
      refine GoT.q rfl (QEx.lenL rfl ⟨_, uT31⟩ (.tmp rfl)) rfl (lt_b rfl) ?_
      refine GoT.q rfl (QEx.lssK rfl (.tmp rfl) (.tmp rfl)) rfl (lt_b rfl) ?_
      refine GoT.nil ?_
      refine Wp.condS h rfl (fun h => ?_) (fun h => ?_)
      · refine Wp.skip ?_
        refine Wp.seq ?_
        refine Wp.block ?_
        refine chk_e h fun c9 h => ?_
        refine let_e h fun r10 hr10 h => ?_
        refine let_e h fun x11 hx11 h => ?_
        refine Wp.seq ?_
        refine Wp.region ?_
        refine GoT.q rfl (QEx.move rfl (.tmp rfl)) rfl (lt_b rfl) ?_
        refine GoT.q rfl (QEx.move rfl (.tmp rfl)) rfl (lt_b rfl) ?_
        refine GoT.q rfl (QEx.as (.cptr (Vec.cells (ix points v7))) (QEx.idxL (E := Vec.av) rfl et31 (.tmp rfl) (.tmp rfl) c9)) rfl (lt_b rfl) ?_
        refine GoT.q rfl (QEx.ldC (x := (Vec.av (ix points v7))) rfl ag24 ts24 (.tmp rfl) (.inl ⟨rfl, rfl, rfl⟩)) rfl (lt_b rfl) ?_
        refine GoT.q rfl (QEx.cal0 (r := (Vec.av r10)) [(Vec.av (ix points v7))] rfl Tryz.call138 (.cons (.tmp rfl) .nil) (ref05_SaturateVec_ok hr10) rfl rfl) rfl (lt_b rfl) ?_
        refine GoT.a rfl (AEx.alZ rfl zt24 rfl rfl) rfl (lt_b rfl) ?_
        refine GoT.s rfl (AEx.sto (Z := (Vec.cells x11)) rfl rfl ts24 (.tmp rfl) rfl (.tmp rfl) rfl rfl (le_b rfl) (congrArg (fun (x : Vec) => (Vec.cells x)) hx11)) rfl ?_
        refine GoT.nil ?_
        refine let_e h fun x12 hx12 h => ?_
        refine Wp.region ?_
        refine GoT.q rfl (QEx.fldP 0 rfl uT45 rfl ts24 rfl (.tmp rfl) rfl) rfl (lt_b rfl) ?_
        refine GoT.q rfl (QEx.fldP 0 rfl uT24 rfl ts3 rfl (.tmp rfl) rfl) rfl (lt_b rfl) ?_
        refine GoT.qr rfl rfl (QEx.ldP1 (AABB.cells v8) (iAV v8.Min.X) rfl ag3 (.tmp rfl) rfl) rfl (lt_b rfl) ?_
        refine GoT.q rfl (QEx.fldP 0 rfl uT24 rfl ts3 rfl (.tmp rfl) rfl) rfl (lt_b rfl) ?_
        refine GoT.qr rfl rfl (QEx.ldP1 (Vec.cells x11) (iAV x11.X) rfl ag3 (.tmp rfl) rfl) rfl (lt_b rfl) ?_
        refine GoT.q rfl (QEx.minK rfl (.tmp rfl) (.tmp rfl)) rfl (lt_b rfl) ?_
        refine GoT.q rfl (QEx.fldP 0 rfl uT45 rfl ts24 rfl (.tmp rfl) rfl) rfl (lt_b rfl) ?_
        refine GoT.q rfl (QEx.fldP 1 rfl uT24 rfl ts3 rfl (.tmp rfl) rfl) rfl (lt_b rfl) ?_
        refine GoT.qr rfl rfl (QEx.ldP1 (AABB.cells v8) (iAV v8.Min.Y) rfl ag3 (.tmp rfl) rfl) rfl (lt_b rfl) ?_
        refine GoT.q rfl (QEx.fldP 1 rfl uT24 rfl ts3 rfl (.tmp rfl) rfl) rfl (lt_b rfl) ?_
        refine GoT.qr rfl rfl (QEx.ldP1 (Vec.cells x11) (iAV x11.Y) rfl ag3 (.tmp rfl) rfl) rfl (lt_b rfl) ?_
        refine GoT.q rfl (QEx.minK rfl (.tmp rfl) (.tmp rfl)) rfl (lt_b rfl) ?_
        refine GoT.q rfl (QEx.as (Vec.av (⟨(min v8.Min.X x11.X), (min v8.Min.Y x11.Y)⟩ : Vec)) (QEx.buildZ rfl uT24 zt24 (by kernel_rfl) (.cons rfl (.tmp rfl) rfl rfl (le_b rfl) (.cons rfl (.tmp rfl) rfl rfl (le_b rfl) .nil)))) rfl (lt_b rfl) ?_
        refine GoT.q rfl (QEx.fldP 2 rfl uT45 rfl ts24 rfl (.tmp rfl) rfl) rfl (lt_b rfl) ?_
        refine GoT.q rfl (QEx.fldP 2 rfl uT24 rfl ts3 rfl (.tmp rfl) rfl) rfl (lt_b rfl) ?_
        refine GoT.qr rfl rfl (QEx.ldP1 (AABB.cells v8) (iAV v8.Max.X) rfl ag3 (.tmp rfl) rfl) rfl (lt_b rfl) ?_
        refine GoT.q rfl (QEx.fldP 0 rfl uT24 rfl ts3 rfl (.tmp rfl) rfl) rfl (lt_b rfl) ?_
        refine GoT.qr rfl rfl (QEx.ldP1 (Vec.cells x11) (iAV x11.X) rfl ag3 (.tmp rfl) rfl) rfl (lt_b rfl) ?_
        refine GoT.q rfl (QEx.maxK rfl (.tmp rfl) (.tmp rfl)) rfl (lt_b rfl) ?_
        refine GoT.q rfl (QEx.fldP 2 rfl uT45 rfl ts24 rfl (.tmp rfl) rfl) rfl (lt_b rfl) ?_
        refine GoT.q rfl (QEx.fldP 3 rfl uT24 rfl ts3 rfl (.tmp rfl) rfl) rfl (lt_b rfl) ?_
        refine GoT.qr rfl rfl (QEx.ldP1 (AABB.cells v8) (iAV v8.Max.Y) rfl ag3 (.tmp rfl) rfl) rfl (lt_b rfl) ?_
        refine GoT.q rfl (QEx.fldP 1 rfl uT24 rfl ts3 rfl (.tmp rfl) rfl) rfl (lt_b rfl) ?_
        refine GoT.qr rfl rfl (QEx.ldP1 (Vec.cells x11) (iAV x11.Y) rfl ag3 (.tmp rfl) rfl) rfl (lt_b rfl) ?_
        refine GoT.q rfl (QEx.maxK rfl (.tmp rfl) (.tmp rfl)) rfl (lt_b rfl) ?_
        refine GoT.q rfl (QEx.as (Vec.av (⟨(max v8.Max.X x11.X), (max v8.Max.Y x11.Y)⟩ : Vec)) (QEx.buildZ rfl uT24 zt24 (by kernel_rfl) (.cons rfl (.tmp rfl) rfl rfl (le_b rfl) (.cons rfl (.tmp rfl) rfl rfl (le_b rfl) .nil)))) rfl (lt_b rfl) ?_
        refine GoT.q rfl (QEx.as (AABB.av (⟨(⟨(min v8.Min.X x11.X), (min v8.Min.Y x11.Y)⟩ : Vec), (⟨(max v8.Max.X x11.X), (max v8.Max.Y x11.Y)⟩ : Vec)⟩ : AABB)) (QEx.buildZ rfl uT45 zt45 (by kernel_rfl) (.cons rfl (.tmp rfl) rfl rfl (le_b rfl) (.cons rfl (.tmp rfl) rfl rfl (le_b rfl) .nil)))) rfl (lt_b rfl) ?_
        refine GoT.s rfl (AEx.sto (Z := (AABB.cells x12)) rfl rfl ts45 (.tmp rfl) rfl (.tmp rfl) rfl rfl (le_b rfl) (congrArg (fun (x : AABB) => (AABB.cells x)) hx12)) rfl ?_
        refine GoT.nil ?_
        refine let_e h fun x13 hx13 h => ?_
        refine Wp.region ?_
        refine GoT.q rfl (QEx.move rfl (.tmp rfl)) rfl (lt_b rfl) ?_
        refine GoT.q rfl (QEx.addK rfl (.tmp rfl) .con) rfl (lt_b rfl) ?_
        refine GoT.q rfl (QEx.eq (QEx.assign rfl (.tmp rfl)) (congrArg iAV hx13)) rfl (lt_b rfl) ?_
        refine GoT.nil ?_
        exact Round2.mk x13 x12 [7] [] h (LS.to.mk (.b rfl rfl (.r rfl rfl (.r rfl rfl (.b rfl rfl .n)))) (.b rfl rfl rfl (.b rfl rfl rfl .n)) rfl)
      · refine Wp.exit ?_
        exact Joined1.mk v8 [] [] h (LS.to.mk (.r rfl rfl (.r rfl rfl .n)) (.b rfl rfl rfl (.b rfl rfl rfl .n)) rfl)
theorem ref05_Union_ok {a : AABB} {b : AABB} {r : AABB} (h : ref05_Union a b = some r) : FnR Tryz.prog 44 [(AABB.av a), (AABB.av b)] (AABB.av r) := by
  refine FnR.intro' (fn := Tryz.f44) (N := 38) Tryz.func44 rfl rfl (Nat.le_of_ble_eq_true rfl) [2, 3, 4, 5, 33] ?_
  refine Wp.seq ?_
  refine Wp.region ?_
  refine GoT.a rfl (AEx.bx (Z := (AABB.cells a)) rfl (.tmp rfl) rfl rfl rfl rfl) rfl (lt_b rfl) ?_
  refine GoT.a rfl (AEx.bx (Z := (AABB.cells b)) rfl (.tmp rfl) rfl rfl rfl rfl) rfl (lt_b rfl) ?_
  refine GoT.a rfl (AEx.alZ rfl zt45 rfl rfl) rfl (lt_b rfl) ?_
  refine GoT.nil ?_
  refine Wp.seq ?_
  refine let_e h fun r1 hr1 h => ?_
  refine let_e h fun r2 hr2 h => ?_
  refine Wp.seq ?_
  refine Wp.region ?_
  refine GoT.qr rfl rfl (QEx.ldP (AABB.cells a) (AABB.av a) rfl ag45 ts45 (.tmp rfl) (le_b rfl) rfl) rfl (lt_b rfl) ?_
  refine GoT.q rfl (QEx.cal0 (r := (boolAV r1)) [(AABB.av a)] rfl Tryz.call99 (.cons (.tmp rfl) .nil) (ref05_Valid_ok hr1) rfl rfl) rfl (lt_b rfl) ?_
  refine GoT.q rfl (QEx.notK rfl (.tmp rfl)) rfl (lt_b rfl) ?_
  refine GoT.q rfl (QEx.move rfl (.tmp rfl)) rfl (lt_b rfl) ?_
  refine GoT.gr rfl rfl rfl rfl (fun hg => QEx.ldP (AABB.cells b) (AABB.av b) rfl ag45 ts45 (.tmp rfl) (le_b rfl) rfl) rfl (lt_b rfl) ?_
  refine GoT.g rfl rfl rfl (fun hg => QEx.cal0 (r := (boolAV r2)) [(AABB.av b)] rfl Tryz.call99 (.cons (.opt (.tmp rfl) hg) .nil) (ref05_Valid_ok hr2) rfl rfl) rfl (lt_b rfl) ?_
  refine GoT.g rfl rfl rfl (fun hg => QEx.notK rfl (.opt (.tmp rfl) hg)) rfl (lt_b rfl) ?_
  refine GoT.q rfl (QEx.pickK rfl (.tmp rfl) (fun hp => (.opt (.tmp rfl) (beq_t hp))) (fun hp => .con)) rfl (lt_b rfl) ?_
  refine GoT.nil ?_
  refine Wp.condS h rfl (fun h => ?_) (fun h => ?_)
  · refine let_e h fun x3 hx3 h => ?_
    refine Wp.seq ?_
    refine Wp.region ?_
    refine GoT.q rfl (QEx.as (AABB.av (⟨Vec.zero, Vec.zero⟩ : AABB)) (QEx.buildZ rfl uT45 zt45 (by kernel_rfl) .nil)) rfl (lt_b rfl) ?_
    refine GoT.s rfl (AEx.sto (Z := (AABB.cells x3)) rfl rfl ts45 (.tmp rfl) rfl (.tmp rfl) rfl rfl (le_b rfl) (congrArg (fun (x : AABB) => (AABB.cells x)) hx3)) rfl ?_
    refine GoT.nil ?_
    refine Wp.ret ?_
    cases h
    exact LeafQ.ret [] (by decide) (.cons (.agg rfl rfl ag45 ts45) .nil) rfl
  · refine Wp.skip ?_
    refine Wp.seq ?_
    refine let_e h fun r4 hr4 h => ?_
    refine Wp.seq ?_
    refine Wp.region ?_
    refine GoT.qr rfl rfl (QEx.ldP (AABB.cells a) (AABB.av a) rfl ag45 ts45 (.tmp rfl) (le_b rfl) rfl) rfl (lt_b rfl) ?_
    refine GoT.q rfl (QEx.cal0 (r := (boolAV r4)) [(AABB.av a)] rfl Tryz.call99 (.cons (.tmp rfl) .nil) (ref05_Valid_ok hr4) rfl rfl) rfl (lt_b rfl) ?_
    refine GoT.q rfl (QEx.notK rfl (.tmp rfl)) rfl (lt_b rfl) ?_
    refine GoT.nil ?_
    refine Wp.condS h rfl (fun h => ?_) (fun h => ?_)
    · refine let_e h fun x5 hx5 h => ?_
      refine Wp.seq ?_
      refine Wp.region ?_
      refine GoT.qr rfl rfl (QEx.ldP (AABB.cells b) (AABB.av b) rfl ag45 ts45 (.tmp rfl) (le_b rfl) rfl) rfl (lt_b rfl) ?_
      refine GoT.s rfl (AEx.sto (Z := (AABB.cells x5)) rfl rfl ts45 (.tmp rfl) rfl (.tmp rfl) rfl rfl (le_b rfl) (congrArg (fun (x : AABB) => (AABB.cells x)) hx5)) rfl ?_
      refine GoT.nil ?_
      refine Wp.ret ?_
      cases h
      exact LeafQ.ret [] (by decide) (.cons (.agg rfl rfl ag45 ts45) .nil) rfl
    · refine Wp.skip ?_
      refine Wp.seq ?_
      refine let_e h fun r6 hr6 h => ?_
      refine Wp.seq ?_
      refine Wp.region ?_
      refine GoT.qr rfl rfl (QEx.ldP (AABB.cells b) (AABB.av b) rfl ag45 ts45 (.tmp rfl) (le_b rfl) rfl) rfl (lt_b rfl) ?_
      refine GoT.q rfl (QEx.cal0 (r := (boolAV r6)) [(AABB.av b)] rfl Tryz.call99 (.cons (.tmp rfl) .nil) (ref05_Valid_ok hr6) rfl rfl) rfl (lt_b rfl) ?_
      refine GoT.q rfl (QEx.notK rfl (.tmp rfl)) rfl (lt_b rfl) ?_
      refine GoT.nil ?_
      refine Wp.condS h rfl (fun h => ?_) (fun h => ?_)
      · refine let_e h fun x7 hx7 h => ?_
        refine Wp.seq ?_
        refine Wp.region ?_
        refine GoT.qr rfl rfl (QEx.ldP (AABB.cells a) (AABB.av a) rfl ag45 ts45 (.tmp rfl) (le_b rfl) rfl) rfl (lt_b rfl) ?_
        refine GoT.s rfl (AEx.sto (Z := (AABB.cells x7)) rfl rfl ts45 (.tmp rfl) rfl (.tmp rfl) rfl rfl (le_b rfl) (congrArg (fun (x : AABB) => (AABB.cells x)) hx7)) rfl ?_
        refine GoT.nil ?_
        refine Wp.ret ?_
        cases h
        exact LeafQ.ret [] (by decide) (.cons (.agg rfl rfl ag45 ts45) .nil) rfl
      · refine Wp.skip ?_
        refine bind_e h fun r8 hr8 h => ?_
        refine let_e h fun x9 hx9 h => ?_
        refine Wp.seq ?_
        refine Wp.region ?_
        refine GoT.q rfl (QEx.fldP 0 rfl uT45 rfl ts24 rfl (.tmp rfl) rfl) rfl (lt_b rfl) ?_
        refine GoT.qr rfl rfl (QEx.ldP (AABB.cells a) (Vec.av a.Min) rfl ag24 ts24 (.tmp rfl) (le_b rfl) rfl) rfl (lt_b rfl) ?_
        refine GoT.q rfl (QEx.fldP 2 rfl uT45 rfl ts24 rfl (.tmp rfl) rfl) rfl (lt_b rfl) ?_
        refine GoT.qr rfl rfl (QEx.ldP (AABB.cells a) (Vec.av a.Max) rfl ag24 ts24 (.tmp rfl) (le_b rfl) rfl) rfl (lt_b rfl) ?_
        refine GoT.q rfl (QEx.fldP 0 rfl uT45 rfl ts24 rfl (.tmp rfl) rfl) rfl (lt_b rfl) ?_
        refine GoT.qr rfl rfl (QEx.ldP (AABB.cells b) (Vec.av b.Min) rfl ag24 ts24 (.tmp rfl) (le_b rfl) rfl) rfl (lt_b rfl) ?_
        refine GoT.q rfl (QEx.fldP 2 rfl uT45 rfl ts24 rfl (.tmp rfl) rfl) rfl (lt_b rfl) ?_
        refine GoT.qr rfl rfl (QEx.ldP (AABB.cells b) (Vec.av b.Max) rfl ag24 ts24 (.tmp rfl) (le_b rfl) rfl) rfl (lt_b rfl) ?_
        refine GoT.q rfl (QEx.as (slT 33 0 2 Vec.av ([a.Min, a.Max, b.Min, b.Max] : List Vec)) (QEx.buildSlice rfl et31 (.cons (.tmp rfl) rfl rfl rfl (.cons (.tmp rfl) rfl rfl rfl (.cons (.tmp rfl) rfl rfl rfl (.cons (.tmp rfl) rfl rfl rfl .nil)))) rfl (by decide))) rfl (lt_b rfl) ?_
        refine GoT.q rfl (QEx.cal0 (r := (.tup [(AABB.av r8.1), (boolAV r8.2)])) [((slAV 2 Vec.av) ([a.Min, a.Max, b.Min, b.Max] : List Vec))] rfl Tryz.call100 (.cons (.tmp rfl) .nil) (ref05_FromPoints_ok hr8) rfl rfl) rfl (lt_b rfl) ?_
        refine GoT.q rfl (QEx.move rfl (.tmp rfl)) rfl (lt_b rfl) ?_
        refine GoT.q rfl (QEx.extract rfl (.tmp rfl) rfl) rfl (lt_b rfl) ?_
        refine GoT.q rfl (QEx.extract rfl (.tmp rfl) rfl) rfl (lt_b rfl) ?_
        refine GoT.a rfl (AEx.alZ rfl zt45 rfl rfl) rfl (lt_b rfl) ?_
        refine GoT.s rfl (AEx.sto (Z := (AABB.cells x9)) rfl rfl ts45 (.tmp rfl) rfl (.tmp rfl) rfl rfl (le_b rfl) (congrArg (fun (x : AABB) => (AABB.cells x)) hx9)) rfl ?_
        refine GoT.q rfl (QEx.assign rfl (.tmp rfl)) rfl (lt_b rfl) ?_
        refine GoT.nil ?_
        refine let_e h fun x10 hx10 h => ?_
        refine Wp.seq ?_
        refine Wp.region ?_
        refine GoT.qr rfl rfl (QEx.ldP (AABB.cells x9) (AABB.av x9) rfl ag45 ts45 (.tmp rfl) (le_b rfl) rfl) rfl (lt_b rfl) ?_
        refine GoT.s rfl (AEx.sto (Z := (AABB.cells x10)) rfl rfl ts45 (.tmp rfl) rfl (.tmp rfl) rfl rfl (le_b rfl) (congrArg (fun (x : AABB) => (AABB.cells x)) hx10)) rfl ?_
        refine GoT.nil ?_
        refine Wp.ret ?_
        cases h
        exact LeafQ.ret [] (by decide) (.cons (.agg rfl rfl ag45 ts45) .nil) rfl
theorem ref23_Bounds_ok {b : Body} {r : AABB × Bool} (h : ref23_Bounds b = some r) : FnR Tryz.prog 13 [(Body.av b)] (.tup [(AABB.av r.1), (boolAV r.2)]) := by
  refine FnR.intro' (fn := Tryz.f13) (N := 38) Tryz.func13 rfl rfl (Nat.le_of_ble_eq_true rfl) [1, 2, 4] ?_
  refine Wp.seq ?_
  refine Wp.region ?_
  refine GoT.a rfl (AEx.bx (Z := (Body.cells b)) rfl (.tmp rfl) rfl rfl rfl rfl) rfl (lt_b rfl) ?_
  refine GoT.a rfl (AEx.alZ rfl zt45 rfl rfl) rfl (lt_b rfl) ?_
  refine GoT.q rfl (QEx.as (boolAV false) (QEx.assign rfl .con)) rfl (lt_b rfl) ?_
  refine GoT.nil ?_
  refine Wp.seq ?_
  refine Wp.seq ?_
  refine Wp.region ?_
  refine GoT.q rfl (QEx.fldP 19 rfl uT29 rfl ts27 rfl (.tmp rfl) rfl) rfl (lt_b rfl) ?_
  refine GoT.qr rfl rfl (QEx.ldP1 (Body.cells b) ((slAV 10 Fixture.av) b.Fixtures) rfl ag27 (.tmp rfl) rfl) rfl (lt_b rfl) ?_
  refine GoT.q rfl (QEx.lenL rfl ⟨_, uT27⟩ (.tmp rfl)) rfl (lt_b rfl) ?_
  refine GoT.q rfl (QEx.eqlK rfl (.tmp rfl) .con) rfl (lt_b rfl) ?_
  refine GoT.nil ?_
  refine Wp.condS h rfl (fun h => ?_) (fun h => ?_)
  · refine let_e h fun x1 hx1 h => ?_
    refine Wp.seq ?_
    refine Wp.region ?_
    refine GoT.q rfl (QEx.as (AABB.av (⟨Vec.zero, Vec.zero⟩ : AABB)) (QEx.buildZ rfl uT45 zt45 (by kernel_rfl) .nil)) rfl (lt_b rfl) ?_
    refine GoT.s rfl (AEx.sto (Z := (AABB.cells x1)) rfl rfl ts45 (.tmp rfl) rfl (.tmp rfl) rfl rfl (le_b rfl) (congrArg (fun (x : AABB) => (AABB.cells x)) hx1)) rfl ?_
    refine GoT.q rfl (QEx.as (boolAV false) (QEx.assign rfl .con)) rfl (lt_b rfl) ?_
    refine GoT.nil ?_
    refine Wp.ret ?_
    cases h
    exact LeafQ.ret [] (by decide) (.cons (.agg rfl rfl ag45 ts45) (.cons (.tmp rfl) .nil)) rfl
  · refine Wp.skip ?_
    refine chk_e h fun c2 h => ?_
    refine bind_e h fun r3 hr3 h => ?_
    refine let_e h fun x4 hx4 h => ?_
    refine Wp.seq ?_
    refine Wp.drawn2 (n0 := 10) [] mixed ?_
    refine GoD.q rfl (QEx.fldP 19 rfl uT29 rfl ts27 rfl (.tmp rfl) rfl) rfl (lt_b rfl) ?_
    refine GoD.qr rfl rfl (QEx.ldP1 (Body.cells b) ((slAV 10 Fixture.av) b.Fixtures) rfl ag27 (.tmp rfl) rfl) rfl (lt_b rfl) ?_
    refine GoD.q rfl (QEx.as (.cptr (Fixture.cells (ix b.Fixtures 0))) (QEx.idxL (E := Fixture.av) rfl et27 (.tmp rfl) .con c2)) rfl (lt_b rfl) ?_
    refine GoD.q rfl (QEx.fldC (Shape.cells ((ix b.Fixtures 0).Shape)) rfl uT35 rfl ts33 rfl (.tmp rfl) rfl) rfl (lt_b rfl) ?_
    refine GoD.q rfl (QEx.ldC (x := (Shape.av ((ix b.Fixtures 0).Shape))) rfl ag33 ts33 (.tmp rfl) (.inl ⟨rfl, rfl, rfl⟩)) rfl (lt_b rfl) ?_
    refine GoD.q rfl (QEx.fldP 2 rfl uT29 rfl ts26 rfl (.tmp rfl) rfl) rfl (lt_b rfl) ?_
    refine GoD.qr rfl rfl (QEx.ldP (Body.cells b) (Transform.av b.Transform) rfl ag26 ts26 (.tmp rfl) (le_b rfl) rfl) rfl (lt_b rfl) ?_
    refine GoD.q rfl (QEx.cal0 (r := (AABB.av r3)) [(Shape.av ((ix b.Fixtures 0).Shape)), (Transform.av b.Transform)] rfl Tryz.call43 (.cons (.tmp rfl) (.cons (.tmp rfl) .nil)) (ref12_Bounds_ok hr3) rfl rfl) rfl (lt_b rfl) ?_
    refine GoD.al rfl rfl zt45 rfl (lt_b rfl) ?_
    refine GoD.s rfl (Z := (AABB.cells x4)) rfl rfl ts45 (.tmp rfl) rfl (.tmp rfl) rfl rfl (le_b rfl) (congrArg (fun (x : AABB) => (AABB.cells x)) hx4) ?_
    refine GoD.nil ⟨by kernel_rfl, by kernel_rfl, by kernel_rfl, by kernel_rfl, by kernel_rfl, ?_⟩
    refine GoT.nil ?_
    refine Wp.join1 (fun v5 => ⟨[(2, (.ptr 2 0)), (4, (.ptr 4 0))], [(2, .cells (AABB.cells AABB.zero)), (4, .cells (AABB.cells v5))], [1]⟩) (fun v5 => ref23_Bounds_j2 v5 = some r) ?_ ?_
    · intro v5 h
      refine let_e h fun x13 hx13 h => ?_
      refine Wp.seq ?_
      refine Wp.region ?_
      refine GoT.qr rfl rfl (QEx.ldP (AABB.cells v5) (AABB.av v5) rfl ag45 ts45 (.tmp rfl) (le_b rfl) rfl) rfl (lt_b rfl) ?_
      refine GoT.s rfl (AEx.sto (Z := (AABB.cells x13)) rfl rfl ts45 (.tmp rfl) rfl (.tmp rfl) rfl rfl (le_b rfl) (congrArg (fun (x : AABB) => (AABB.cells x)) hx13)) rfl ?_
      refine GoT.q rfl (QEx.as (boolAV true) (QEx.assign rfl .con)) rfl (lt_b rfl) ?_
      refine GoT.nil ?_
      refine Wp.ret ?_
      cases h
      exact LeafQ.ret [] (by decide) (.cons (.agg rfl rfl ag45 ts45) (.cons (.tmp rfl) .nil)) rfl
    · refine Wp.seq ?_
      refine Wp.region ?_
      refine GoT.q rfl (QEx.as (iAV 1) (QEx.assign rfl .con)) rfl (lt_b rfl) ?_
      refine GoT.nil ?_
      refine Wp.block ?_
      refine Wp.loop2 (fun v6 v7 => ⟨[(1, (.ptr 1 0)), (2, (.ptr 2 0)), (4, (.ptr 4 0)), (5, (iAV v6))], [(1, .cells (Body.cells b)), (2, .cells (AABB.cells AABB.zero)), (4, .cells (AABB.cells v7))], []⟩) (fun n v6 v7 => ref23_Bounds_l1 b ref23_Bounds_j2 n v6 v7 = some r) fuel 1 x4 [] [] h (LS.to.mk (.r rfl rfl (.r rfl rfl (.r rfl rfl (.b rfl rfl .n)))) (.b rfl rfl rfl (.b rfl rfl rfl (.b rfl rfl rfl .n))) rfl) ?_
      rintro (_ | n2) v6 v7 h
      · exact none_e h
      rw [ref23_Bounds_l1] at h
      refine Wp.seq ?_
      refine Wp.seq ?_
      refine Wp.region ?_
      refine GoT.q rfl (QEx.move rfl (.tmp rfl)) rfl (lt_b rfl) ?_
      refine GoT.q rfl (QEx.fldP 19 rfl uT29 rfl ts27 rfl (.tmp rfl) rfl) rfl (lt_b rfl) ?_
      refine GoT.qr rfl rfl (QEx.ldP1 (Body.cells b) ((slAV 10 Fixture.av) b.Fixtures) rfl ag27 (.tmp rfl) rfl) rfl (lt_b rfl) ?_
      refine GoT.q rfl (QEx.lenL rfl ⟨_, uT27⟩ (.tmp rfl)) rfl (lt_b rfl) ?_
      refine GoT.q rfl (QEx.lssK rfl (.tmp rfl) (.tmp rfl)) rfl (lt_b rfl) ?_
      refine GoT.nil ?_
      refine Wp.condS h rfl (fun h => ?_) (fun h => ?_)
      · refine Wp.skip ?_
        refine Wp.seq ?_
        refine Wp.block ?_
        refine chk_e h fun c8 h => ?_
        refine bind_e h fun r9 hr9 h => ?_
        refine bind_e h fun r10 hr10 h => ?_
        refine let_e h fun x11 hx11 h => ?_
        refine Wp.drawn2 (n0 := 12) [] mixed ?_
        refine GoD.qr rfl rfl (QEx.ldP (AABB.cells v7) (AABB.av v7) rfl ag45 ts45 (.tmp rfl) (le_b rfl) rfl) rfl (lt_b rfl) ?_
        refine GoD.q rfl (QEx.fldP 19 rfl uT29 rfl ts27 rfl (.tmp rfl) rfl) rfl (lt_b rfl) ?_
        refine GoD.qr rfl rfl (QEx.ldP1 (Body.cells b) ((slAV 10 Fixture.av) b.Fixtures) rfl ag27 (.tmp rfl) rfl) rfl (lt_b rfl) ?_
        refine GoD.q rfl (QEx.move rfl (.tmp rfl)) rfl (lt_b rfl) ?_
        refine GoD.q rfl (QEx.as (.cptr (Fixture.cells (ix b.Fixtures v6))) (QEx.idxL (E := Fixture.av) rfl et27 (.tmp rfl) (.tmp rfl) c8)) rfl (lt_b rfl) ?_
        refine GoD.q rfl (QEx.fldC (Shape.cells ((ix b.Fixtures v6).Shape)) rfl uT35 rfl ts33 rfl (.tmp rfl) rfl) rfl (lt_b rfl) ?_
        refine GoD.q rfl (QEx.ldC (x := (Shape.av ((ix b.Fixtures v6).Shape))) rfl ag33 ts33 (.tmp rfl) (.inl ⟨rfl, rfl, rfl⟩)) rfl (lt_b rfl) ?_
        refine GoD.q rfl (QEx.fldP 2 rfl uT29 rfl ts26 rfl (.tmp rfl) rfl) rfl (lt_b rfl) ?_
        refine GoD.qr rfl rfl (QEx.ldP (Body.cells b) (Transform.av b.Transform) rfl ag26 ts26 (.tmp rfl) (le_b rfl) rfl) rfl (lt_b rfl) ?_
        refine GoD.q rfl (QEx.cal0 (r := (AABB.av r9)) [(Shape.av ((ix b.Fixtures v6).Shape)), (Transform.av b.Transform)] rfl Tryz.call43 (.cons (.tmp rfl) (.cons (.tmp rfl) .nil)) (ref12_Bounds_ok hr9) rfl rfl) rfl (lt_b rfl) ?_
        refine GoD.q rfl (QEx.cal0 (r := (AABB.av r10)) [(AABB.av v7), (AABB.av r9)] rfl Tryz.call44 (.cons (.tmp rfl) (.cons (.tmp rfl) .nil)) (ref05_Union_ok hr10) rfl rfl) rfl (lt_b rfl) ?_
        refine GoD.s rfl (Z := (AABB.cells x11)) rfl rfl ts45 (.tmp rfl) rfl (.tmp rfl) rfl rfl (le_b rfl) (congrArg (fun (x : AABB) => (AABB.cells x)) hx11) ?_
        refine GoD.nil ⟨by kernel_rfl, by kernel_rfl, by kernel_rfl, by kernel_rfl, by kernel_rfl, ?_⟩
        refine GoT.nil ?_
        refine let_e h fun x12 hx12 h => ?_
        refine Wp.region ?_
        refine GoT.q rfl (QEx.move rfl (.tmp rfl)) rfl (lt_b rfl) ?_
        refine GoT.q rfl (QEx.addK rfl (.tmp rfl) .con) rfl (lt_b rfl) ?_
        refine GoT.q rfl (QEx.eq (QEx.assign rfl (.tmp rfl)) (congrArg iAV hx12)) rfl (lt_b rfl) ?_
        refine GoT.nil ?_
        exact Round2.mk x12 x11 [] [] h (LS.to.mk (.r rfl rfl (.r rfl rfl (.r rfl rfl (.b rfl rfl .n)))) (.b rfl rfl rfl (.b rfl rfl rfl (.b rfl rfl rfl .n))) rfl)
      · refine Wp.exit ?_
        exact Joined1.mk v7 [1] [] h (LS.to.mk (.r rfl rfl (.r rfl rfl .n)) (.b rfl rfl rfl (.b rfl rfl rfl .n)) rfl)
theorem ref01_Lerp_ok {a : Int} {b : Int} {t : Int} {r : Int} (h : ref01_Lerp a b t = some r) : FnR Tryz.prog 165 [(iAV a), (iAV b), (iAV t)] (iAV r) := by
  refine FnR.intro' (fn := Tryz.f165) (N := 14) Tryz.func165 rfl rfl (Nat.le_of_ble_eq_true rfl) [] ?_
  refine Wp.seq ?_
  refine Wp.region ?_
  refine GoT.q rfl (QEx.as (iAV 0) (QEx.assign rfl .con)) rfl (lt_b rfl) ?_
  refine GoT.nil ?_
  refine let_e h fun r1 hr1 h => ?_
  refine bind_e h fun r2 hr2 h => ?_
  refine let_e h fun r3 hr3 h => ?_
  refine Wp.seq ?_
  refine Wp.region ?_
  refine GoT.q rfl (QEx.move rfl (.tmp rfl)) rfl (lt_b rfl) ?_
  refine GoT.q rfl (QEx.move rfl (.tmp rfl)) rfl (lt_b rfl) ?_
  refine GoT.q rfl (QEx.move rfl (.tmp rfl)) rfl (lt_b rfl) ?_
  refine GoT.q rfl (QEx.cal0 (r := (iAV r1)) [(iAV b), (iAV a)] rfl Tryz.call98 (.cons (.tmp rfl) (.cons (.tmp rfl) .nil)) (ref01_Sub_ok hr1) rfl rfl) rfl (lt_b rfl) ?_
  refine GoT.q rfl (QEx.move rfl (.tmp rfl)) rfl (lt_b rfl) ?_
  refine GoT.q rfl (QEx.cal0 (r := (iAV r2)) [(iAV r1), (iAV t)] rfl Tryz.call65 (.cons (.tmp rfl) (.cons (.tmp rfl) .nil)) (ref01_Mul_ok hr2) rfl rfl) rfl (lt_b rfl) ?_
  refine GoT.q rfl (QEx.cal0 (r := (iAV r3)) [(iAV a), (iAV r2)] rfl Tryz.call68 (.cons (.tmp rfl) (.cons (.tmp rfl) .nil)) (ref01_Add_ok hr3) rfl rfl) rfl (lt_b rfl) ?_
  refine GoT.q rfl (QEx.assign rfl (.tmp rfl)) rfl (lt_b rfl) ?_
  refine GoT.nil ?_
  refine Wp.ret ?_
  cases h
  exact LeafQ.ret [] (by decide) (.cons (.tmp rfl) .nil) rfl
theorem ref03_Lerp_ok {a : Vec} {b : Vec} {t : Int} {r : Vec} (h : ref03_Lerp a b t = some r) : FnR Tryz.prog 145 [(Vec.av a), (Vec.av b), (iAV t)] (Vec.av r) := by
  refine FnR.intro' (fn := Tryz.f145) (N := 20) Tryz.func145 rfl rfl (Nat.le_of_ble_eq_true rfl) [3, 4, 6] ?_
  refine Wp.seq ?_
  refine Wp.region ?_
  refine GoT.a rfl (AEx.bx (Z := (Vec.cells a)) rfl (.tmp rfl) rfl rfl rfl rfl) rfl (lt_b rfl) ?_
  refine GoT.a rfl (AEx.bx (Z := (Vec.cells b)) rfl (.tmp rfl) rfl rfl rfl rfl) rfl (lt_b rfl) ?_
  refine GoT.a rfl (AEx.alZ rfl zt24 rfl rfl) rfl (lt_b rfl) ?_
  refine GoT.nil ?_
  refine bind_e h fun r1 hr1 h => ?_
  refine bind_e h fun r2 hr2 h => ?_
  refine let_e h fun x3 hx3 h => ?_
  refine Wp.seq ?_
  refine Wp.drawn2 (n0 := 14) [] mixed ?_
  refine GoD.q rfl (QEx.fldP 0 rfl uT24 rfl ts3 rfl (.tmp rfl) rfl) rfl (lt_b rfl) ?_
  refine GoD.qr rfl rfl (QEx.ldP1 (Vec.cells a) (iAV a.X) rfl ag3 (.tmp rfl) rfl) rfl (lt_b rfl) ?_
  refine GoD.q rfl (QEx.fldP 0 rfl uT24 rfl ts3 rfl (.tmp rfl) rfl) rfl (lt_b rfl) ?_
  refine GoD.qr rfl rfl (QEx.ldP1 (Vec.cells b) (iAV b.X) rfl ag3 (.tmp rfl) rfl) rfl (lt_b rfl) ?_
  refine GoD.q rfl (QEx.move rfl (.tmp rfl)) rfl (lt_b rfl) ?_
  refine GoD.q rfl (QEx.cal0 (r := (iAV r1)) [(iAV a.X), (iAV b.X), (iAV t)] rfl Tryz.call165 (.cons (.tmp rfl) (.cons (.tmp rfl) (.cons (.tmp rfl) .nil))) (ref01_Lerp_ok hr1) rfl rfl) rfl (lt_b rfl) ?_
  refine GoD.q rfl (QEx.fldP 1 rfl uT24 rfl ts3 rfl (.tmp rfl) rfl) rfl (lt_b rfl) ?_
  refine GoD.qr rfl rfl (QEx.ldP1 (Vec.cells a) (iAV a.Y) rfl ag3 (.tmp rfl) rfl) rfl (lt_b rfl) ?_
  refine GoD.q rfl (QEx.fldP 1 rfl uT24 rfl ts3 rfl (.tmp rfl) rfl) rfl (lt_b rfl) ?_
  refine GoD.qr rfl rfl (QEx.ldP1 (Vec.cells b) (iAV b.Y) rfl ag3 (.tmp rfl) rfl) rfl (lt_b rfl) ?_
  refine GoD.q rfl (QEx.move rfl (.tmp rfl)) rfl (lt_b rfl) ?_
  refine GoD.q rfl (QEx.cal0 (r := (iAV r2)) [(iAV a.Y), (iAV b.Y), (iAV t)] rfl Tryz.call165 (.cons (.tmp rfl) (.cons (.tmp rfl) (.cons (.tmp rfl) .nil))) (ref01_Lerp_ok hr2) rfl rfl) rfl (lt_b rfl) ?_
  refine GoD.q rfl (QEx.as (Vec.av (⟨r1, r2⟩ : Vec)) (QEx.buildZ rfl uT24 zt24 (by kernel_rfl) (.cons rfl (.tmp rfl) rfl rfl (le_b rfl) (.cons rfl (.tmp rfl) rfl rfl (le_b rfl) .nil)))) rfl (lt_b rfl) ?_
  refine GoD.s rfl (Z := (Vec.cells x3)) rfl rfl ts24 (.tmp rfl) rfl (.tmp rfl) rfl rfl (le_b rfl) (congrArg (fun (x : Vec) => (Vec.cells x)) hx3) ?_
  refine GoD.nil ⟨by kernel_rfl, by kernel_rfl, by kernel_rfl, by kernel_rfl, by kernel_rfl, ?_⟩
  refine GoT.nil ?_
  refine Wp.ret ?_
  cases h
  exact LeafQ.ret [] (by decide) (.cons (.agg rfl rfl ag24 ts24) .nil) rfl
theorem ref11_Centroid_ok {vertices : List Vec} {r : Vec} (h : ref11_Centroid vertices = some r) : FnR Tryz.prog 146 [((slAV 2 Vec.av) vertices)] (Vec.av r) := by
  refine FnR.intro' (fn := Tryz.f146) (N := 88) Tryz.func146 rfl rfl (Nat.le_of_ble_eq_true rfl) [2, 3, 8, 9, 11, 15, 20, 25, 29, 34] ?_
  refine Wp.seq ?_
  refine Wp.region ?_
  refine GoT.a rfl (AEx.alZ rfl zt24 rfl rfl) rfl (lt_b rfl) ?_
  refine GoT.nil ?_
  refine Wp.seq ?_
  refine bind_e h fun r1 hr1 h => ?_
  refine Wp.seq ?_
  refine Wp.region ?_
  refine GoT.q rfl (QEx.move rfl (.tmp rfl)) rfl (lt_b rfl) ?_
  refine GoT.q rfl (QEx.cal0 (r := (boolAV r1)) [((slAV 2 Vec.av) vertices)] rfl Tryz.call89 (.cons (.tmp rfl) .nil) (ref11_IsConvex_ok hr1) rfl rfl) rfl (lt_b rfl) ?_
  refine GoT.q rfl (QEx.notK rfl (.tmp rfl)) rfl (lt_b rfl) ?_
  refine GoT.nil ?_
  refine Wp.condS h rfl (fun h => ?_) (fun h => ?_)
  · refine let_e h fun x2 hx2 h => ?_
    refine Wp.seq ?_
    refine Wp.region ?_
    refine GoT.q rfl (QEx.as (Vec.av (⟨0, 0⟩ : Vec)) (QEx.buildZ rfl uT24 zt24 (by kernel_rfl) .nil)) rfl (lt_b rfl) ?_
    refine GoT.s rfl (AEx.sto (Z := (Vec.cells x2)) rfl rfl ts24 (.tmp rfl) rfl (.tmp rfl) rfl rfl (le_b rfl) (congrArg (fun (x : Vec) => (Vec.cells x)) hx2)) rfl ?_
    refine GoT.nil ?_
    refine Wp.ret ?_
    cases h
    exact LeafQ.ret [] (by decide) (.cons (.agg rfl rfl ag24 ts24) .nil) rfl
  · refine Wp.skip ?_
    refine chk_e h fun c3 h => ?_
    refine let_e h fun x4 hx4 h => ?_
    refine Wp.seq ?_
    refine Wp.region ?_
    refine GoT.q rfl (QEx.move rfl (.tmp rfl)) rfl (lt_b rfl) ?_
    refine GoT.q rfl (QEx.as (.cptr (Vec.cells (ix vertices 0))) (QEx.idxL (E := Vec.av) rfl et31 (.tmp rfl) .con c3)) rfl (lt_b rfl) ?_
    refine GoT.q rfl (QEx.ldC (x := (Vec.av (ix vertices 0))) rfl ag24 ts24 (.tmp rfl) (.inl ⟨rfl, rfl, rfl⟩)) rfl (lt_b rfl) ?_
    refine GoT.a rfl (AEx.alZ rfl zt24 rfl rfl) rfl (lt_b rfl) ?_
    refine GoT.s rfl (AEx.sto (Z := (Vec.cells x4)) rfl rfl ts24 (.tmp rfl) rfl (.tmp rfl) rfl rfl (le_b rfl) (congrArg (fun (x : Vec) => (Vec.cells x)) hx4)) rfl ?_
    refine GoT.nil ?_
    refine Wp.seq ?_
    refine Wp.region ?_
    refine GoT.q rfl (QEx.as (iAV 0) (QEx.assign rfl .con)) rfl (lt_b rfl) ?_
    refine GoT.q rfl (QEx.as (iAV 0) (QEx.assign rfl .con)) rfl (lt_b rfl) ?_
    refine GoT.q rfl (QEx.as (iAV 0) (QEx.assign rfl .con)) rfl (lt_b rfl) ?_
    refine GoT.nil ?_
    refine Wp.join3 (fun v5 v6 v7 => ⟨[(2, (.ptr 2 0)), (3, (.ptr 3 0)), (4, (iAV v5)), (5, (iAV v6)), (6, (iAV v7))], [(2, .cells (Vec.cells Vec.zero)), (3, .cells (Vec.cells x4))], [8, 9, 11, 15, 20, 25, 29, 34]⟩) (fun v5 v6 v7 => (ref11_Centroid_j2 x4) v5 v6 v7 = some r) ?_ ?_
    · intro v5 v6 v7 h
      refine Wp.seq ?_
      refine Wp.seq ?_
      refine Wp.region ?_
      refine GoT.q rfl (QEx.move rfl (.tmp rfl)) rfl (lt_b rfl) ?_
      refine GoT.q rfl (QEx.eqlK rfl (.tmp rfl) .con) rfl (lt_b rfl) ?_
      refine GoT.nil ?_
      refine Wp.condS h rfl (fun h => ?_) (fun h => ?_)
      · refine let_e h fun x23 hx23 h => ?_
        refine Wp.seq ?_
        refine Wp.region ?_
        refine GoT.qr rfl rfl (QEx.ldP (Vec.cells x4) (Vec.av x4) rfl ag24 ts24 (.tmp rfl) (le_b rfl) rfl) rfl (lt_b rfl) ?_
        refine GoT.s rfl (AEx.sto (Z := (Vec.cells x23)) rfl rfl ts24 (.tmp rfl) rfl (.tmp rfl) rfl rfl (le_b rfl) (congrArg (fun (x : Vec) => (Vec.cells x)) hx23)) rfl ?_
        refine GoT.nil ?_
        refine Wp.ret ?_
        cases h
        exact LeafQ.ret [] (by decide) (.cons (.agg rfl rfl ag24 ts24) .nil) rfl
      · refine Wp.skip ?_
        refine bind_e h fun r24 hr24 h => ?_
        refine bind_e h fun r25 hr25 h => ?_
        refine let_e h fun x26 hx26 h => ?_
        refine Wp.seq ?_
        refine Wp.drawn2 (n0 := 16) [8, 9, 11, 15, 20, 25, 29, 34] mixed ?_
        refine GoD.q rfl (QEx.fldP 0 rfl uT24 rfl ts3 rfl (.tmp rfl) rfl) rfl (lt_b rfl) ?_
        refine GoD.qr rfl rfl (QEx.ldP1 (Vec.cells x4) (iAV x4.X) rfl ag3 (.tmp rfl) rfl) rfl (lt_b rfl) ?_
        refine GoD.q rfl (QEx.move rfl (.tmp rfl)) rfl (lt_b rfl) ?_
        refine GoD.q rfl (QEx.move rfl (.tmp rfl)) rfl (lt_b rfl) ?_
        refine GoD.q rfl (QEx.mulK rfl .con (.tmp rfl)) rfl (lt_b rfl) ?_
        refine GoD.q rfl (QEx.cal0 (r := (iAV r24)) [(iAV v6), (iAV (w64 (3 * v5)))] rfl Tryz.call122 (.cons (.tmp rfl) (.cons (.tmp rfl) .nil)) (ref01_RoundDiv_ok hr24) rfl rfl) rfl (lt_b rfl) ?_
        refine GoD.q rfl (QEx.addK rfl (.tmp rfl) (.tmp rfl)) rfl (lt_b rfl) ?_
        refine GoD.q rfl (QEx.fldP 1 rfl uT24 rfl ts3 rfl (.tmp rfl) rfl) rfl (lt_b rfl) ?_
        refine GoD.qr rfl rfl (QEx.ldP1 (Vec.cells x4) (iAV x4.Y) rfl ag3 (.tmp rfl) rfl) rfl (lt_b rfl) ?_
        refine GoD.q rfl (QEx.move rfl (.tmp rfl)) rfl (lt_b rfl) ?_
        refine GoD.q rfl (QEx.move rfl (.tmp rfl)) rfl (lt_b rfl) ?_
        refine GoD.q rfl (QEx.mulK rfl .con (.tmp rfl)) rfl (lt_b rfl) ?_
        refine GoD.q rfl (QEx.cal0 (r := (iAV r25)) [(iAV v7), (iAV (w64 (3 * v5)))] rfl Tryz.call122 (.cons (.tmp rfl) (.cons (.tmp rfl) .nil)) (ref01_RoundDiv_ok hr25) rfl rfl) rfl (lt_b rfl) ?_
        refine GoD.q rfl (QEx.addK rfl (.tmp rfl) (.tmp rfl)) rfl (lt_b rfl) ?_
        refine GoD.q rfl (QEx.as (Vec.av (⟨(w64 (x4.X + r24)), (w64 (x4.Y + r25))⟩ : Vec)) (QEx.buildZ rfl uT24 zt24 (by kernel_rfl) (.cons rfl (.tmp rfl) rfl rfl (le_b rfl) (.cons rfl (.tmp rfl) rfl rfl (le_b rfl) .nil)))) rfl (lt_b rfl) ?_
        refine GoD.s rfl (Z := (Vec.cells x26)) rfl rfl ts24 (.tmp rfl) rfl (.tmp rfl) rfl rfl (le_b rfl) (congrArg (fun (x : Vec) => (Vec.cells x)) hx26) ?_
        refine GoD.nil ⟨by kernel_rfl, by kernel_rfl, by kernel_rfl, by kernel_rfl, by kernel_rfl, ?_⟩
        refine GoT.nil ?_
        refine Wp.ret ?_
        cases h
        exact LeafQ.ret [] (by decide) (.cons (.agg rfl rfl ag24 ts24) .nil) rfl
    · refine Wp.seq ?_
      refine Wp.region ?_
      refine GoT.q rfl (QEx.as (iAV 1) (QEx.assign rfl .con)) rfl (lt_b rfl) ?_
      refine GoT.nil ?_
      refine Wp.block ?_
      refine Wp.loop4 (fun v8 v9 v10 v11 => ⟨[(0, ((slAV 2 Vec.av) vertices)), (2, (.ptr 2 0)), (3, (.ptr 3 0)), (4, (iAV v8)), (5, (iAV v9)), (6, (iAV v10)), (7, (iAV v11))], [(2, .cells (Vec.cells Vec.zero)), (3, .cells (Vec.cells x4))], [8, 9, 11, 15, 20, 25, 29, 34]⟩) (fun n v8 v9 v10 v11 => ref11_Centroid_l1 vertices x4 (ref11_Centroid_j2 x4) n v8 v9 v10 v11 = some r) fuel 0 0 0 1 [] [] h (LS.to.mk (.b rfl rfl (.r rfl rfl (.r rfl rfl (.b rfl rfl (.b rfl rfl (.b rfl rfl (.b rfl rfl .n))))))) (.b rfl rfl rfl (.b rfl rfl rfl .n)) rfl) ?_
      rintro (_ | n2) v8 v9 v10 v11 h
      · exact none_e h
      rw [ref11_Centroid_l1] at h
      refine Wp.seq ?_
      refine Wp.seq ?_
      refine Wp.region ?_
      refine GoT.q rfl (QEx.move rfl (.tmp rfl)) rfl (lt_b rfl) ?_
      refine GoT.q rfl (QEx.addK rfl (.tmp rfl) .con) rfl (lt_b rfl) ?_
      refine GoT.q rfl (QEx.move rfl (.tmp rfl)) rfl (lt_b rfl) ?_
      refine GoT.q rfl (QEx.lenL rfl ⟨_, uT31⟩ (.tmp rfl)) rfl (lt_b rfl) ?_
      refine GoT.q rfl (QEx.lssK rfl (.tmp rfl) (.tmp rfl)) rfl (lt_b rfl) ?_
      refine GoT.nil ?_
      refine Wp.condS h rfl (fun h => ?_) (fun h => ?_)
      · refine Wp.skip ?_
        refine Wp.seq ?_
        refine Wp.block ?_
        refine chk_e h fun c12 h => ?_
        refine chk_e h fun c13 h => ?_
        refine bind_e h fun r14 hr14 h => ?_
        refine let_e h fun x15 hx15 h => ?_
        refine let_e h fun x16 hx16 h => ?_
        refine Wp.seq ?_
        refine Wp.drawn2 (n0 := 17) [11, 15, 20, 25, 29, 34] mixed ?_
        refine GoD.q rfl (QEx.move rfl (.tmp rfl)) rfl (lt_b rfl) ?_
        refine GoD.q rfl (QEx.move rfl (.tmp rfl)) rfl (lt_b rfl) ?_
        refine GoD.q rfl (QEx.as (.cptr (Vec.cells (ix vertices v11))) (QEx.idxL (E := Vec.av) rfl et31 (.tmp rfl) (.tmp rfl) c12)) rfl (lt_b rfl) ?_
        refine GoD.q rfl (QEx.ldC (x := (Vec.av (ix vertices v11))) rfl ag24 ts24 (.tmp rfl) (.inl ⟨rfl, rfl, rfl⟩)) rfl (lt_b rfl) ?_
        refine GoD.q rfl (QEx.move rfl (.tmp rfl)) rfl (lt_b rfl) ?_
        refine GoD.q rfl (QEx.move rfl (.tmp rfl)) rfl (lt_b rfl) ?_
        refine GoD.q rfl (QEx.addK rfl (.tmp rfl) .con) rfl (lt_b rfl) ?_
        refine GoD.q rfl (QEx.as (.cptr (Vec.cells (ix vertices (w64 (v11 + 1))))) (QEx.idxL (E := Vec.av) rfl et31 (.tmp rfl) (.tmp rfl) c13)) rfl (lt_b rfl) ?_
        refine GoD.q rfl (QEx.ldC (x := (Vec.av (ix vertices (w64 (v11 + 1))))) rfl ag24 ts24 (.tmp rfl) (.inl ⟨rfl, rfl, rfl⟩)) rfl (lt_b rfl) ?_
        refine GoD.q rfl (QEx.move rfl (.tmp rfl)) rfl (lt_b rfl) ?_
        refine GoD.q rfl (QEx.move rfl (.tmp rfl)) rfl (lt_b rfl) ?_
        refine GoD.q rfl (QEx.cal0 (r := (iAV r14)) [((slAV 2 Vec.av) vertices), (iAV v11)] rfl Tryz.call135 (.cons (.tmp rfl) (.cons (.tmp rfl) .nil)) (ref11_cross_ok hr14) rfl rfl) rfl (lt_b rfl) ?_
        refine GoD.al rfl rfl zt24 rfl (lt_b rfl) ?_
        refine GoD.al rfl rfl zt24 rfl (lt_b rfl) ?_
        refine GoD.s rfl (Z := (Vec.cells x15)) rfl rfl ts24 (.tmp rfl) rfl (.tmp rfl) rfl rfl (le_b rfl) (congrArg (fun (x : Vec) => (Vec.cells x)) hx15) ?_
        refine GoD.s rfl (Z := (Vec.cells x16)) rfl rfl ts24 (.tmp rfl) rfl (.tmp rfl) rfl rfl (le_b rfl) (congrArg (fun (x : Vec) => (Vec.cells x)) hx16) ?_
        refine GoD.q rfl (QEx.assign rfl (.tmp rfl)) rfl (lt_b rfl) ?_
        refine GoD.nil ⟨by kernel_rfl, by kernel_rfl, by kernel_rfl, by kernel_rfl, by kernel_rfl, ?_⟩
        refine GoT.nil ?_
        refine let_e h fun x17 hx17 h => ?_
        refine Wp.seq ?_
        refine Wp.region ?_
        refine GoT.q rfl (QEx.move rfl (.tmp rfl)) rfl (lt_b rfl) ?_
        refine GoT.q rfl (QEx.move rfl (.tmp rfl)) rfl (lt_b rfl) ?_
        refine GoT.q rfl (QEx.addK rfl (.tmp rfl) (.tmp rfl)) rfl (lt_b rfl) ?_
        refine GoT.q rfl (QEx.eq (QEx.assign rfl (.tmp rfl)) (congrArg iAV hx17)) rfl (lt_b rfl) ?_
        refine GoT.nil ?_
        refine let_e h fun x18 hx18 h => ?_
        refine let_e h fun x19 hx19 h => ?_
        refine Wp.seq ?_
        refine Wp.region ?_
        refine GoT.q rfl (QEx.move rfl (.tmp rfl)) rfl (lt_b rfl) ?_
        refine GoT.q rfl (QEx.fldP 0 rfl uT24 rfl ts3 rfl (.tmp rfl) rfl) rfl (lt_b rfl) ?_
        refine GoT.qr rfl rfl (QEx.ldP1 (Vec.cells x15) (iAV x15.X) rfl ag3 (.tmp rfl) rfl) rfl (lt_b rfl) ?_
        refine GoT.q rfl (QEx.fldP 0 rfl uT24 rfl ts3 rfl (.tmp rfl) rfl) rfl (lt_b rfl) ?_
        refine GoT.qr rfl rfl (QEx.ldP1 (Vec.cells x4) (iAV x4.X) rfl ag3 (.tmp rfl) rfl) rfl (lt_b rfl) ?_
        refine GoT.q rfl (QEx.subK rfl (.tmp rfl) (.tmp rfl)) rfl (lt_b rfl) ?_
        refine GoT.q rfl (QEx.fldP 0 rfl uT24 rfl ts3 rfl (.tmp rfl) rfl) rfl (lt_b rfl) ?_
        refine GoT.qr rfl rfl (QEx.ldP1 (Vec.cells x16) (iAV x16.X) rfl ag3 (.tmp rfl) rfl) rfl (lt_b rfl) ?_
        refine GoT.q rfl (QEx.addK rfl (.tmp rfl) (.tmp rfl)) rfl (lt_b rfl) ?_
        refine GoT.q rfl (QEx.fldP 0 rfl uT24 rfl ts3 rfl (.tmp rfl) rfl) rfl (lt_b rfl) ?_
        refine GoT.qr rfl rfl (QEx.ldP1 (Vec.cells x4) (iAV x4.X) rfl ag3 (.tmp rfl) rfl) rfl (lt_b rfl) ?_
        refine GoT.q rfl (QEx.subK rfl (.tmp rfl) (.tmp rfl)) rfl (lt_b rfl) ?_
        refine GoT.q rfl (QEx.move rfl (.tmp rfl)) rfl (lt_b rfl) ?_
        refine GoT.q rfl (QEx.eq (QEx.mulK rfl (.tmp rfl) (.tmp rfl)) (congrArg iAV hx18)) rfl (lt_b rfl) ?_
        refine GoT.q rfl (QEx.addK rfl (.tmp rfl) (.tmp rfl)) rfl (lt_b rfl) ?_
        refine GoT.q rfl (QEx.eq (QEx.assign rfl (.tmp rfl)) (congrArg iAV hx19)) rfl (lt_b rfl) ?_
        refine GoT.nil ?_
        refine let_e h fun x20 hx20 h => ?_
        refine let_e h fun x21 hx21 h => ?_
        refine Wp.region ?_
        refine GoT.q rfl (QEx.move rfl (.tmp rfl)) rfl (lt_b rfl) ?_
        refine GoT.q rfl (QEx.fldP 1 rfl uT24 rfl ts3 rfl (.tmp rfl) rfl) rfl (lt_b rfl) ?_
        refine GoT.qr rfl rfl (QEx.ldP1 (Vec.cells x15) (iAV x15.Y) rfl ag3 (.tmp rfl) rfl) rfl (lt_b rfl) ?_
        refine GoT.q rfl (QEx.fldP 1 rfl uT24 rfl ts3 rfl (.tmp rfl) rfl) rfl (lt_b rfl) ?_
        refine GoT.qr rfl rfl (QEx.ldP1 (Vec.cells x4) (iAV x4.Y) rfl ag3 (.tmp rfl) rfl) rfl (lt_b rfl) ?_
        refine GoT.q rfl (QEx.subK rfl (.tmp rfl) (.tmp rfl)) rfl (lt_b rfl) ?_
        refine GoT.q rfl (QEx.fldP 1 rfl uT24 rfl ts3 rfl (.tmp rfl) rfl) rfl (lt_b rfl) ?_
        refine GoT.qr rfl rfl (QEx.ldP1 (Vec.cells x16) (iAV x16.Y) rfl ag3 (.tmp rfl) rfl) rfl (lt_b rfl) ?_
        refine GoT.q rfl (QEx.addK rfl (.tmp rfl) (.tmp rfl)) rfl (lt_b rfl) ?_
        refine GoT.q rfl (QEx.fldP 1 rfl uT24 rfl ts3 rfl (.tmp rfl) rfl) rfl (lt_b rfl) ?_
        refine GoT.qr rfl rfl (QEx.ldP1 (Vec.cells x4) (iAV x4.Y) rfl ag3 (.tmp rfl) rfl) rfl (lt_b rfl) ?_
        refine GoT.q rfl (QEx.subK rfl (.tmp rfl) (.tmp rfl)) rfl (lt_b rfl) ?_
        refine GoT.q rfl (QEx.move rfl (.tmp rfl)) rfl (lt_b rfl) ?_
        refine GoT.q rfl (QEx.eq (QEx.mulK rfl (.tmp rfl) (.tmp rfl)) (congrArg iAV hx20)) rfl (lt_b rfl) ?_
        refine GoT.q rfl (QEx.addK rfl (.tmp rfl) (.tmp rfl)) rfl (lt_b rfl) ?_
        refine GoT.q rfl (QEx.eq (QEx.assign rfl (.tmp rfl)) (congrArg iAV hx21)) rfl (lt_b rfl) ?_
        refine GoT.nil ?_
        refine let_e h fun x22 hx22 h => ?_
        refine Wp.region ?_
        refine GoT.q rfl (QEx.move rfl (.tmp rfl)) rfl (lt_b rfl) ?_
        refine GoT.q rfl (QEx.addK rfl (.tmp rfl) .con) rfl (lt_b rfl) ?_
        refine GoT.q rfl (QEx.eq (QEx.assign rfl (.tmp rfl)) (congrArg iAV hx22)) rfl (lt_b rfl) ?_
        refine GoT.nil ?_
        exact Round4.mk x17 x19 x21 x22 [8, 9] [] h (LS.to.mk (.b rfl rfl (.r rfl rfl (.r rfl rfl (.b rfl rfl (.b rfl rfl (.b rfl rfl (.b rfl rfl .n))))))) (.b rfl rfl rfl (.b rfl rfl rfl .n)) rfl)
      · refine Wp.exit ?_
        exact Joined3.mk v8 v9 v10 [] [] h (LS.to.mk (.r rfl rfl (.r rfl rfl (.b rfl rfl (.b rfl rfl (.b rfl rfl .n))))) (.b rfl rfl rfl (.b rfl rfl rfl .n)) rfl)
theorem ref03_Cross_ok {a : Vec} {b : Vec} {r : Int} (h : ref03_Cross a b = some r) : FnR Tryz.prog 66 [(Vec.av a), (Vec.av b)] (iAV r) := by
  refine FnR.intro' (fn := Tryz.f66) (N := 22) Tryz.func66 rfl rfl (Nat.le_of_ble_eq_true rfl) [2, 3] ?_
  refine Wp.seq ?_
  refine Wp.region ?_
  refine GoT.a rfl (AEx.bx (Z := (Vec.cells a)) rfl (.tmp rfl) rfl rfl rfl rfl) rfl (lt_b rfl) ?_
  refine GoT.a rfl (AEx.bx (Z := (Vec.cells b)) rfl (.tmp rfl) rfl rfl rfl rfl) rfl (lt_b rfl) ?_
  refine GoT.q rfl (QEx.as (iAV 0) (QEx.assign rfl .con)) rfl (lt_b rfl) ?_
  refine GoT.nil ?_
  refine let_e h fun r1 hr1 h => ?_
  refine let_e h fun x2 hx2 h => ?_
  refine Wp.seq ?_
  refine Wp.region ?_
  refine GoT.qr rfl rfl (QEx.ldP (Vec.cells a) (Vec.av a) rfl ag24 ts24 (.tmp rfl) (le_b rfl) rfl) rfl (lt_b rfl) ?_
  refine GoT.q rfl (QEx.cal0 (r := (Vec.av r1)) [(Vec.av a)] rfl Tryz.call123 (.cons (.tmp rfl) .nil) (ref03_Saturated_ok hr1) rfl rfl) rfl (lt_b rfl) ?_
  refine GoT.s rfl (AEx.sto (Z := (Vec.cells x2)) rfl rfl ts24 (.tmp rfl) rfl (.tmp rfl) rfl rfl (le_b rfl) (congrArg (fun (x : Vec) => (Vec.cells x)) hx2)) rfl ?_
  refine GoT.nil ?_
  refine let_e h fun r3 hr3 h => ?_
  refine let_e h fun x4 hx4 h => ?_
  refine Wp.seq ?_
  refine Wp.region ?_
  refine GoT.qr rfl rfl (QEx.ldP (Vec.cells b) (Vec.av b) rfl ag24 ts24 (.tmp rfl) (le_b rfl) rfl) rfl (lt_b rfl) ?_
  refine GoT.q rfl (QEx.cal0 (r := (Vec.av r3)) [(Vec.av b)] rfl Tryz.call123 (.cons (.tmp rfl) .nil) (ref03_Saturated_ok hr3) rfl rfl) rfl (lt_b rfl) ?_
  refine GoT.s rfl (AEx.sto (Z := (Vec.cells x4)) rfl rfl ts24 (.tmp rfl) rfl (.tmp rfl) rfl rfl (le_b rfl) (congrArg (fun (x : Vec) => (Vec.cells x)) hx4)) rfl ?_
  refine GoT.nil ?_
  refine bind_e h fun r5 hr5 h => ?_
  refine let_e h fun r6 hr6 h => ?_
  refine Wp.seq ?_
  refine Wp.region ?_
  refine GoT.q rfl (QEx.fldP 0 rfl uT24 rfl ts3 rfl (.tmp rfl) rfl) rfl (lt_b rfl) ?_
  refine GoT.qr rfl rfl (QEx.ldP1 (Vec.cells x2) (iAV x2.X) rfl ag3 (.tmp rfl) rfl) rfl (lt_b rfl) ?_
  refine GoT.q rfl (QEx.fldP 1 rfl uT24 rfl ts3 rfl (.tmp rfl) rfl) rfl (lt_b rfl) ?_
  refine GoT.qr rfl rfl (QEx.ldP1 (Vec.cells x4) (iAV x4.Y) rfl ag3 (.tmp rfl) rfl) rfl (lt_b rfl) ?_
  refine GoT.q rfl (QEx.mulK rfl (.tmp rfl) (.tmp rfl)) rfl (lt_b rfl) ?_
  refine GoT.q rfl (QEx.fldP 1 rfl uT24 rfl ts3 rfl (.tmp rfl) rfl) rfl (lt_b rfl) ?_
  refine GoT.qr rfl rfl (QEx.ldP1 (Vec.cells x2) (iAV x2.Y) rfl ag3 (.tmp rfl) rfl) rfl (lt_b rfl) ?_
  refine GoT.q rfl (QEx.fldP 0 rfl uT24 rfl ts3 rfl (.tmp rfl) rfl) rfl (lt_b rfl) ?_
  refine GoT.qr rfl rfl (QEx.ldP1 (Vec.cells x4) (iAV x4.X) rfl ag3 (.tmp rfl) rfl) rfl (lt_b rfl) ?_
  refine GoT.q rfl (QEx.mulK rfl (.tmp rfl) (.tmp rfl)) rfl (lt_b rfl) ?_
  refine GoT.q rfl (QEx.subK rfl (.tmp rfl) (.tmp rfl)) rfl (lt_b rfl) ?_
  refine GoT.q rfl (QEx.cal0 (r := (iAV r5)) [(iAV (w64 ((w64 (x2.X * x4.Y)) - (w64 (x2.Y * x4.X))))), (iAV 65536)] rfl Tryz.call122 (.cons (.tmp rfl) (.cons .con .nil)) (ref01_RoundDiv_ok hr5) rfl rfl) rfl (lt_b rfl) ?_
  refine GoT.q rfl (QEx.cal0 (r := (iAV r6)) [(iAV r5)] rfl Tryz.call121 (.cons (.tmp rfl) .nil) (ref01_Saturate_ok hr6) rfl rfl) rfl (lt_b rfl) ?_
  refine GoT.q rfl (QEx.assign rfl (.tmp rfl)) rfl (lt_b rfl) ?_
  refine GoT.nil ?_
  refine Wp.ret ?_
  cases h
  exact LeafQ.ret [] (by decide) (.cons (.tmp rfl) .nil) rfl
theorem ref03_Dot_ok {a : Vec} {b : Vec} {r : Int} (h : ref03_Dot a b = some r) : FnR Tryz.prog 148 [(Vec.av a), (Vec.av b)] (iAV r) := by
  refine FnR.intro' (fn := Tryz.f148) (N := 22) Tryz.func148 rfl rfl (Nat.le_of_ble_eq_true rfl) [2, 3] ?_
  refine Wp.seq ?_
  refine Wp.region ?_
  refine GoT.a rfl (AEx.bx (Z := (Vec.cells a)) rfl (.tmp rfl) rfl rfl rfl rfl) rfl (lt_b rfl) ?_
  refine GoT.a rfl (AEx.bx (Z := (Vec.cells b)) rfl (.tmp rfl) rfl rfl rfl rfl) rfl (lt_b rfl) ?_
  refine GoT.q rfl (QEx.as (iAV 0) (QEx.assign rfl .con)) rfl (lt_b rfl) ?_
  refine GoT.nil ?_
  refine let_e h fun r1 hr1 h => ?_
  refine let_e h fun x2 hx2 h => ?_
  refine Wp.seq ?_
  refine Wp.region ?_
  refine GoT.qr rfl rfl (QEx.ldP (Vec.cells a) (Vec.av a) rfl ag24 ts24 (.tmp rfl) (le_b rfl) rfl) rfl (lt_b rfl) ?_
  refine GoT.q rfl (QEx.cal0 (r := (Vec.av r1)) [(Vec.av a)] rfl Tryz.call123 (.cons (.tmp rfl) .nil) (ref03_Saturated_ok hr1) rfl rfl) rfl (lt_b rfl) ?_
  refine GoT.s rfl (AEx.sto (Z := (Vec.cells x2)) rfl rfl ts24 (.tmp rfl) rfl (.tmp rfl) rfl rfl (le_b rfl) (congrArg (fun (x : Vec) => (Vec.cells x)) hx2)) rfl ?_
  refine GoT.nil ?_
  refine let_e h fun r3 hr3 h => ?_
  refine let_e h fun x4 hx4 h => ?_
  refine Wp.seq ?_
  refine Wp.region ?_
  refine GoT.qr rfl rfl (QEx.ldP (Vec.cells b) (Vec.av b) rfl ag24 ts24 (.tmp rfl) (le_b rfl) rfl) rfl (lt_b rfl) ?_
  refine GoT.q rfl (QEx.cal0 (r := (Vec.av r3)) [(Vec.av b)] rfl Tryz.call123 (.cons (.tmp rfl) .nil) (ref03_Saturated_ok hr3) rfl rfl) rfl (lt_b rfl) ?_
  refine GoT.s rfl (AEx.sto (Z := (Vec.cells x4)) rfl rfl ts24 (.tmp rfl) rfl (.tmp rfl) rfl rfl (le_b rfl) (congrArg (fun (x : Vec) => (Vec.cells x)) hx4)) rfl ?_
  refine GoT.nil ?_
  refine bind_e h fun r5 hr5 h => ?_
  refine let_e h fun r6 hr6 h => ?_
  refine Wp.seq ?_
  refine Wp.region ?_
  refine GoT.q rfl (QEx.fldP 0 rfl uT24 rfl ts3 rfl (.tmp rfl) rfl) rfl (lt_b rfl) ?_
  refine GoT.qr rfl rfl (QEx.ldP1 (Vec.cells x2) (iAV x2.X) rfl ag3 (.tmp rfl) rfl) rfl (lt_b rfl) ?_
  refine GoT.q rfl (QEx.fldP 0 rfl uT24 rfl ts3 rfl (.tmp rfl) rfl) rfl (lt_b rfl) ?_
  refine GoT.qr rfl rfl (QEx.ldP1 (Vec.cells x4) (iAV x4.X) rfl ag3 (.tmp rfl) rfl) rfl (lt_b rfl) ?_
  refine GoT.q rfl (QEx.mulK rfl (.tmp rfl) (.tmp rfl)) rfl (lt_b rfl) ?_
  refine GoT.q rfl (QEx.fldP 1 rfl uT24 rfl ts3 rfl (.tmp rfl) rfl) rfl (lt_b rfl) ?_
  refine GoT.qr rfl rfl (QEx.ldP1 (Vec.cells x2) (iAV x2.Y) rfl ag3 (.tmp rfl) rfl) rfl (lt_b rfl) ?_
  refine GoT.q rfl (QEx.fldP 1 rfl uT24 rfl ts3 rfl (.tmp rfl) rfl) rfl (lt_b rfl) ?_
  refine GoT.qr rfl rfl (QEx.ldP1 (Vec.cells x4) (iAV x4.Y) rfl ag3 (.tmp rfl) rfl) rfl (lt_b rfl) ?_
  refine GoT.q rfl (QEx.mulK rfl (.tmp rfl) (.tmp rfl)) rfl (lt_b rfl) ?_
  refine GoT.q rfl (QEx.addK rfl (.tmp rfl) (.tmp rfl)) rfl (lt_b rfl) ?_
  refine GoT.q rfl (QEx.cal0 (r := (iAV r5)) [(iAV (w64 ((w64 (x2.X * x4.X)) + (w64 (x2.Y * x4.Y))))), (iAV 65536)] rfl Tryz.call122 (.cons (.tmp rfl) (.cons .con .nil)) (ref01_RoundDiv_ok hr5) rfl rfl) rfl (lt_b rfl) ?_
  refine GoT.q rfl (QEx.cal0 (r := (iAV r6)) [(iAV r5)] rfl Tryz.call121 (.cons (.tmp rfl) .nil) (ref01_Saturate_ok hr6) rfl rfl) rfl (lt_b rfl) ?_
  refine GoT.q rfl (QEx.assign rfl (.tmp rfl)) rfl (lt_b rfl) ?_
  refine GoT.nil ?_
  refine Wp.ret ?_
  cases h
  exact LeafQ.ret [] (by decide) (.cons (.tmp rfl) .nil) rfl
theorem ref13_polygonInertia_ok {pts : List Vec} {c_1 : Vec} {m : Int} {r : Int} (h : ref13_polygonInertia pts c_1 m = some r) : FnR Tryz.prog 147 [((slAV 2 Vec.av) pts), (Vec.av c_1), (iAV m)] (iAV r) := by
  refine FnR.intro' (fn := Tryz.f147) (N := 64) Tryz.func147 rfl rfl (Nat.le_of_ble_eq_true rfl) [4, 10, 11, 14, 19, 25, 28] ?_
  refine Wp.seq ?_
  refine Wp.region ?_
  refine GoT.a rfl (AEx.bx (Z := (Vec.cells c_1)) rfl (.tmp rfl) rfl rfl rfl rfl) rfl (lt_b rfl) ?_
  refine GoT.q rfl (QEx.as (iAV 0) (QEx.assign rfl .con)) rfl (lt_b rfl) ?_
  refine GoT.nil ?_
  refine Wp.seq ?_
  refine Wp.region ?_
  refine GoT.q rfl (QEx.as (iAV 0) (QEx.assign rfl .con)) rfl (lt_b rfl) ?_
  refine GoT.q rfl (QEx.as (iAV 0) (QEx.assign rfl .con)) rfl (lt_b rfl) ?_
  refine GoT.nil ?_
  refine Wp.join2 (fun v1 v2 => ⟨[(2, (iAV m)), (7, (iAV v1)), (8, (iAV v2))], [], [4, 10, 11, 14, 19, 25, 28]⟩) (fun v1 v2 => (ref13_polygonInertia_j2 m) v1 v2 = some r) ?_ ?_
  · intro v1 v2 h
    refine Wp.seq ?_
    refine Wp.seq ?_
    refine Wp.region ?_
    refine GoT.q rfl (QEx.move rfl (.tmp rfl)) rfl (lt_b rfl) ?_
    refine GoT.q rfl (QEx.lssK rfl (.tmp rfl) .con) rfl (lt_b rfl) ?_
    refine GoT.nil ?_
    refine Wp.condS h rfl (fun h => ?_) (fun h => ?_)
    · refine Wp.seq ?_
      refine Wp.region ?_
      refine GoT.q rfl (QEx.as (iAV 0) (QEx.assign rfl .con)) rfl (lt_b rfl) ?_
      refine GoT.nil ?_
      refine Wp.ret ?_
      cases h
      exact LeafQ.ret [] (by decide) (.cons (.tmp rfl) .nil) rfl
    · refine Wp.skip ?_
      refine bind_e h fun r20 hr20 h => ?_
      refine bind_e h fun r21 hr21 h => ?_
      refine bind_e h fun r22 hr22 h => ?_
      refine Wp.seq ?_
      refine Wp.region ?_
      refine GoT.q rfl (QEx.move rfl (.tmp rfl)) rfl (lt_b rfl) ?_
      refine GoT.q rfl (QEx.move rfl (.tmp rfl)) rfl (lt_b rfl) ?_
      refine GoT.q rfl (QEx.move rfl (.tmp rfl)) rfl (lt_b rfl) ?_
      refine GoT.q rfl (QEx.cal0 (r := (iAV r20)) [(iAV v1), (iAV v2)] rfl Tryz.call122 (.cons (.tmp rfl) (.cons (.tmp rfl) .nil)) (ref01_RoundDiv_ok hr20) rfl rfl) rfl (lt_b rfl) ?_
      refine GoT.q rfl (QEx.cal0 (r := (iAV r21)) [(iAV r20), (iAV 6)] rfl Tryz.call122 (.cons (.tmp rfl) (.cons .con .nil)) (ref01_RoundDiv_ok hr21) rfl rfl) rfl (lt_b rfl) ?_
      refine GoT.q rfl (QEx.cal0 (r := (iAV r22)) [(iAV m), (iAV r21)] rfl Tryz.call65 (.cons (.tmp rfl) (.cons (.tmp rfl) .nil)) (ref01_Mul_ok hr22) rfl rfl) rfl (lt_b rfl) ?_
      refine GoT.q rfl (QEx.assign rfl (.tmp rfl)) rfl (lt_b rfl) ?_
      refine GoT.nil ?_
      refine Wp.ret ?_
      cases h
      exact LeafQ.ret [] (by decide) (.cons (.tmp rfl) .nil) rfl
  · refine Wp.seq ?_
    refine Wp.region ?_
    refine GoT.q rfl (QEx.as (iAV 0) (QEx.assign rfl .con)) rfl (lt_b rfl) ?_
    refine GoT.nil ?_
    refine Wp.block ?_
    refine Wp.loop3 (fun v3 v4 v5 => ⟨[(0, ((slAV 2 Vec.av) pts)), (2, (iAV m)), (4, (.ptr 4 0)), (7, (iAV v3)), (8, (iAV v4)), (9, (iAV v5))], [(4, .cells (Vec.cells c_1))], [10, 11, 14, 19, 25, 28]⟩) (fun n v3 v4 v5 => ref13_polygonInertia_l1 pts c_1 (ref13_polygonInertia_j2 m) n v3 v4 v5 = some r) fuel 0 0 0 [] [] h (LS.to.mk (.b rfl rfl (.b rfl rfl (.r rfl rfl (.b rfl rfl (.b rfl rfl (.b rfl rfl .n)))))) (.b rfl rfl rfl .n) rfl) ?_
    rintro (_ | n2) v3 v4 v5 h
    · exact none_e h
    rw [ref13_polygonInertia_l1] at h
    refine Wp.seq ?_
    refine Wp.seq ?_
    refine Wp.region ?_
    refine GoT.q rfl (QEx.move rfl (.tmp rfl)) rfl (lt_b rfl) ?_
    refine GoT.q rfl (QEx.move rfl (.tmp rfl)) rfl (lt_b rfl) ?_
    refine GoT.q rfl (QEx.lenL rfl ⟨_, uT31⟩ (.tmp rfl)) rfl (lt_b rfl) ?_
    refine GoT.q rfl (QEx.lssK rfl (.tmp rfl) (.tmp rfl)) rfl (lt_b rfl) ?_
    refine GoT.nil ?_
    refine Wp.condS h rfl (fun h => ?_) (fun h => ?_)
    · refine Wp.skip ?_
      refine Wp.seq ?_
      refine Wp.block ?_
      refine chk_e h fun c6 h => ?_
      refine let_e h fun r7 hr7 h => ?_
      refine let_e h fun x8 hx8 h => ?_
      refine Wp.seq ?_
      refine Wp.drawn2 (n0 := 8) [11, 14, 19, 25, 28] mixed ?_
      refine GoD.q rfl (QEx.move rfl (.tmp rfl)) rfl (lt_b rfl) ?_
      refine GoD.q rfl (QEx.move rfl (.tmp rfl)) rfl (lt_b rfl) ?_
      refine GoD.q rfl (QEx.as (.cptr (Vec.cells (ix pts v5))) (QEx.idxL (E := Vec.av) rfl et31 (.tmp rfl) (.tmp rfl) c6)) rfl (lt_b rfl) ?_
      refine GoD.q rfl (QEx.ldC (x := (Vec.av (ix pts v5))) rfl ag24 ts24 (.tmp rfl) (.inl ⟨rfl, rfl, rfl⟩)) rfl (lt_b rfl) ?_
      refine GoD.qr rfl rfl (QEx.ldP (Vec.cells c_1) (Vec.av c_1) rfl ag24 ts24 (.tmp rfl) (le_b rfl) rfl) rfl (lt_b rfl) ?_
      refine GoD.q rfl (QEx.cal0 (r := (Vec.av r7)) [(Vec.av (ix pts v5)), (Vec.av c_1)] rfl Tryz.call56 (.cons (.tmp rfl) (.cons (.tmp rfl) .nil)) (ref03_Sub_ok hr7) rfl rfl) rfl (lt_b rfl) ?_
      refine GoD.al rfl rfl zt24 rfl (lt_b rfl) ?_
      refine GoD.s rfl (Z := (Vec.cells x8)) rfl rfl ts24 (.tmp rfl) rfl (.tmp rfl) rfl rfl (le_b rfl) (congrArg (fun (x : Vec) => (Vec.cells x)) hx8) ?_
      refine GoD.nil ⟨by kernel_rfl, by kernel_rfl, by kernel_rfl, by kernel_rfl, by kernel_rfl, ?_⟩
      refine GoT.nil ?_
      refine chk_e h fun c9 h => ?_
      refine chk_e h fun c10 h => ?_
      refine let_e h fun r11 hr11 h => ?_
      refine let_e h fun x12 hx12 h => ?_
      refine Wp.seq ?_
      refine Wp.drawn2 (n0 := 12) [14, 19, 25, 28] mixed ?_
      refine GoD.q rfl (QEx.move rfl (.tmp rfl)) rfl (lt_b rfl) ?_
      refine GoD.q rfl (QEx.move rfl (.tmp rfl)) rfl (lt_b rfl) ?_
      refine GoD.q rfl (QEx.addK rfl (.tmp rfl) .con) rfl (lt_b rfl) ?_
      refine GoD.q rfl (QEx.move rfl (.tmp rfl)) rfl (lt_b rfl) ?_
      refine GoD.q rfl (QEx.lenL rfl ⟨_, uT31⟩ (.tmp rfl)) rfl (lt_b rfl) ?_
      refine GoD.q rfl (QEx.remK rfl (.tmp rfl) (.tmp rfl) c9) rfl (lt_b rfl) ?_
      refine GoD.q rfl (QEx.as (.cptr (Vec.cells (ix pts (Int.tmod (w64 (v5 + 1)) ((pts).length : Int))))) (QEx.idxL (E := Vec.av) rfl et31 (.tmp rfl) (.tmp rfl) c10)) rfl (lt_b rfl) ?_
      refine GoD.q rfl (QEx.ldC (x := (Vec.av (ix pts (Int.tmod (w64 (v5 + 1)) ((pts).length : Int))))) rfl ag24 ts24 (.tmp rfl) (.inl ⟨rfl, rfl, rfl⟩)) rfl (lt_b rfl) ?_
      refine GoD.qr rfl rfl (QEx.ldP (Vec.cells c_1) (Vec.av c_1) rfl ag24 ts24 (.tmp rfl) (le_b rfl) rfl) rfl (lt_b rfl) ?_
      refine GoD.q rfl (QEx.cal0 (r := (Vec.av r11)) [(Vec.av (ix pts (Int.tmod (w64 (v5 + 1)) ((pts).length : Int)))), (Vec.av c_1)] rfl Tryz.call56 (.cons (.tmp rfl) (.cons (.tmp rfl) .nil)) (ref03_Sub_ok hr11) rfl rfl) rfl (lt_b rfl) ?_
      refine GoD.al rfl rfl zt24 rfl (lt_b rfl) ?_
      refine GoD.s rfl (Z := (Vec.cells x12)) rfl rfl ts24 (.tmp rfl) rfl (.tmp rfl) rfl rfl (le_b rfl) (congrArg (fun (x : Vec) => (Vec.cells x)) hx12) ?_
      refine GoD.nil ⟨by kernel_rfl, by kernel_rfl, by kernel_rfl, by kernel_rfl, by kernel_rfl, ?_⟩
      refine GoT.nil ?_
      refine bind_e h fun r13 hr13 h => ?_
      refine Wp.seq ?_
      refine Wp.region ?_
      refine GoT.qr rfl rfl (QEx.ldP (Vec.cells x8) (Vec.av x8) rfl ag24 ts24 (.tmp rfl) (le_b rfl) rfl) rfl (lt_b rfl) ?_
      refine GoT.qr rfl rfl (QEx.ldP (Vec.cells x12) (Vec.av x12) rfl ag24 ts24 (.tmp rfl) (le_b rfl) rfl) rfl (lt_b rfl) ?_
      refine GoT.q rfl (QEx.cal0 (r := (iAV r13)) [(Vec.av x8), (Vec.av x12)] rfl Tryz.call66 (.cons (.tmp rfl) (.cons (.tmp rfl) .nil)) (ref03_Cross_ok hr13) rfl rfl) rfl (lt_b rfl) ?_
      refine GoT.q rfl (QEx.assign rfl (.tmp rfl)) rfl (lt_b rfl) ?_
      refine GoT.nil ?_
      refine let_e h fun x14 hx14 h => ?_
      refine Wp.seq ?_
      refine Wp.region ?_
      refine GoT.q rfl (QEx.move rfl (.tmp rfl)) rfl (lt_b rfl) ?_
      refine GoT.q rfl (QEx.move rfl (.tmp rfl)) rfl (lt_b rfl) ?_
      refine GoT.q rfl (QEx.addK rfl (.tmp rfl) (.tmp rfl)) rfl (lt_b rfl) ?_
      refine GoT.q rfl (QEx.eq (QEx.assign rfl (.tmp rfl)) (congrArg iAV hx14)) rfl (lt_b rfl) ?_
      refine GoT.nil ?_
      refine bind_e h fun r15 hr15 h => ?_
      refine bind_e h fun r16 hr16 h => ?_
      refine bind_e h fun r17 hr17 h => ?_
      refine let_e h fun x18 hx18 h => ?_
      refine Wp.drawn2 (n0 := 16) [14, 19, 25, 28] mixed ?_
      refine GoD.q rfl (QEx.move rfl (.tmp rfl)) rfl (lt_b rfl) ?_
      refine GoD.q rfl (QEx.move rfl (.tmp rfl)) rfl (lt_b rfl) ?_
      refine GoD.qr rfl rfl (QEx.ldP (Vec.cells x8) (Vec.av x8) rfl ag24 ts24 (.tmp rfl) (le_b rfl) rfl) rfl (lt_b rfl) ?_
      refine GoD.qr rfl rfl (QEx.ldP (Vec.cells x8) (Vec.av x8) rfl ag24 ts24 (.tmp rfl) (le_b rfl) rfl) rfl (lt_b rfl) ?_
      refine GoD.q rfl (QEx.cal0 (r := (iAV r15)) [(Vec.av x8), (Vec.av x8)] rfl Tryz.call148 (.cons (.tmp rfl) (.cons (.tmp rfl) .nil)) (ref03_Dot_ok hr15) rfl rfl) rfl (lt_b rfl) ?_
      refine GoD.qr rfl rfl (QEx.ldP (Vec.cells x8) (Vec.av x8) rfl ag24 ts24 (.tmp rfl) (le_b rfl) rfl) rfl (lt_b rfl) ?_
      refine GoD.qr rfl rfl (QEx.ldP (Vec.cells x12) (Vec.av x12) rfl ag24 ts24 (.tmp rfl) (le_b rfl) rfl) rfl (lt_b rfl) ?_
      refine GoD.q rfl (QEx.cal0 (r := (iAV r16)) [(Vec.av x8), (Vec.av x12)] rfl Tryz.call148 (.cons (.tmp rfl) (.cons (.tmp rfl) .nil)) (ref03_Dot_ok hr16) rfl rfl) rfl (lt_b rfl) ?_
      refine GoD.q rfl (QEx.addK rfl (.tmp rfl) (.tmp rfl)) rfl (lt_b rfl) ?_
      refine GoD.qr rfl rfl (QEx.ldP (Vec.cells x12) (Vec.av x12) rfl ag24 ts24 (.tmp rfl) (le_b rfl) rfl) rfl (lt_b rfl) ?_
      refine GoD.qr rfl rfl (QEx.ldP (Vec.cells x12) (Vec.av x12) rfl ag24 ts24 (.tmp rfl) (le_b rfl) rfl) rfl (lt_b rfl) ?_
      refine GoD.q rfl (QEx.cal0 (r := (iAV r17)) [(Vec.av x12), (Vec.av x12)] rfl Tryz.call148 (.cons (.tmp rfl) (.cons (.tmp rfl) .nil)) (ref03_Dot_ok hr17) rfl rfl) rfl (lt_b rfl) ?_
      refine GoD.q rfl (QEx.addK rfl (.tmp rfl) (.tmp rfl)) rfl (lt_b rfl) ?_
      refine GoD.q rfl (QEx.mulK rfl (.tmp rfl) (.tmp rfl)) rfl (lt_b rfl) ?_
      refine GoD.q rfl (QEx.addK rfl (.tmp rfl) (.tmp rfl)) rfl (lt_b rfl) ?_
      refine GoD.q rfl (QEx.eq (QEx.assign rfl (.tmp rfl)) (congrArg iAV hx18)) rfl (lt_b rfl) ?_
      refine GoD.nil ⟨by kernel_rfl, by kernel_rfl, by kernel_rfl, by kernel_rfl, by kernel_rfl, ?_⟩
      refine GoT.nil ?_
      refine let_e h fun x19 hx19 h => ?_
      refine Wp.region ?_
      refine GoT.q rfl (QEx.move rfl (.tmp rfl)) rfl (lt_b rfl) ?_
      refine GoT.q rfl (QEx.addK rfl (.tmp rfl) .con) rfl (lt_b rfl) ?_
      refine GoT.q rfl (QEx.eq (QEx.assign rfl (.tmp rfl)) (congrArg iAV hx19)) rfl (lt_b rfl) ?_
      refine GoT.nil ?_
      exact Round3.mk x18 x14 x19 [10, 11] [] h (LS.to.mk (.b rfl rfl (.b rfl rfl (.r rfl rfl (.b rfl rfl (.b rfl rfl (.b rfl rfl .n)))))) (.b rfl rfl rfl .n) rfl)
    · refine Wp.exit ?_
      exact Joined2.mk v3 v4 [4] [] h (LS.to.mk (.b rfl rfl (.b rfl rfl (.b rfl rfl .n))) .n rfl)
theorem ref13_OfShape_ok {s : Shape} {density : Int} {r : MassData} (h : ref13_OfShape s density = some r) : FnR Tryz.prog 103 [(Shape.av s), (iAV density)] (MassData.av r) := by
  refine FnR.intro' (fn := Tryz.f103) (N := 107) Tryz.func103 rfl rfl (Nat.le_of_ble_eq_true rfl) [2, 4, 11] ?_
  refine Wp.seq ?_
  refine Wp.region ?_
  refine GoT.a rfl (AEx.bx (Z := (Shape.cells s)) rfl (.tmp rfl) rfl rfl rfl rfl) rfl (lt_b rfl) ?_
  refine GoT.a rfl (AEx.alZ rfl zt49 rfl rfl) rfl (lt_b rfl) ?_
  refine GoT.nil ?_
  refine Wp.seq ?_
  refine bind_e h fun r1 hr1 h => ?_
  refine Wp.seq ?_
  refine Wp.region ?_
  refine GoT.qr rfl rfl (QEx.ldP (Shape.cells s) (Shape.av s) rfl ag33 ts33 (.tmp rfl) (le_b rfl) rfl) rfl (lt_b rfl) ?_
  refine GoT.q rfl (QEx.cal0 (r := (iAV r1)) [(Shape.av s)] rfl Tryz.call39 (.cons (.tmp rfl) .nil) (ref12_Validate_ok hr1) rfl rfl) rfl (lt_b rfl) ?_
  refine GoT.q rfl (QEx.neqK rfl (.tmp rfl) .con) rfl (lt_b rfl) ?_
  refine GoT.q rfl (QEx.move rfl (.tmp rfl)) rfl (lt_b rfl) ?_
  refine GoT.g rfl rfl rfl (fun hg => QEx.move rfl (.tmp rfl)) rfl (lt_b rfl) ?_
  refine GoT.g rfl rfl rfl (fun hg => QEx.lssK rfl (.opt (.tmp rfl) hg) .con) rfl (lt_b rfl) ?_
  refine GoT.q rfl (QEx.pickK rfl (.tmp rfl) (fun hp => .con) (fun hp => (.opt (.tmp rfl) (beq_f hp)))) rfl (lt_b rfl) ?_
  refine GoT.q rfl (QEx.move rfl (.tmp rfl)) rfl (lt_b rfl) ?_
  refine GoT.g rfl rfl rfl (fun hg => QEx.move rfl (.tmp rfl)) rfl (lt_b rfl) ?_
  refine GoT.g rfl rfl rfl (fun hg => QEx.gtrK rfl (.opt (.tmp rfl) hg) .con) rfl (lt_b rfl) ?_
  refine GoT.q rfl (QEx.pickK rfl (.tmp rfl) (fun hp => .con) (fun hp => (.opt (.tmp rfl) (beq_f hp)))) rfl (lt_b rfl) ?_
  refine GoT.nil ?_
  refine Wp.condS h rfl (fun h => ?_) (fun h => ?_)
  · refine let_e h fun x2 hx2 h => ?_
    refine Wp.seq ?_
    refine Wp.region ?_
    refine GoT.q rfl (QEx.as (MassData.av (⟨0, Vec.zero, 0⟩ : MassData)) (QEx.buildZ rfl uT49 zt49 (by kernel_rfl) .nil)) rfl (lt_b rfl) ?_
    refine GoT.s rfl (AEx.sto (Z := (MassData.cells x2)) rfl rfl ts49 (.tmp rfl) rfl (.tmp rfl) rfl rfl (le_b rfl) (congrArg (fun (x : MassData) => (MassData.cells x)) hx2)) rfl ?_
    refine GoT.nil ?_
    refine Wp.ret ?_
    cases h
    exact LeafQ.ret [] (by decide) (.cons (.agg rfl rfl ag49 ts49) .nil) rfl
  · refine Wp.skip ?_
    refine bind_e h fun r3 hr3 h => ?_
    refine Wp.seq ?_
    refine Wp.region ?_
    refine GoT.q rfl (QEx.fldP 1 rfl uT33 rfl ts3 rfl (.tmp rfl) rfl) rfl (lt_b rfl) ?_
    refine GoT.qr rfl rfl (QEx.ldP1 (Shape.cells s) (iAV s.Radius) rfl ag3 (.tmp rfl) rfl) rfl (lt_b rfl) ?_
    refine GoT.q rfl (QEx.fldP 1 rfl uT33 rfl ts3 rfl (.tmp rfl) rfl) rfl (lt_b rfl) ?_
    refine GoT.qr rfl rfl (QEx.ldP1 (Shape.cells s) (iAV s.Radius) rfl ag3 (.tmp rfl) rfl) rfl (lt_b rfl) ?_
    refine GoT.q rfl (QEx.cal0 (r := (iAV r3)) [(iAV s.Radius), (iAV s.Radius)] rfl Tryz.call65 (.cons (.tmp rfl) (.cons (.tmp rfl) .nil)) (ref01_Mul_ok hr3) rfl rfl) rfl (lt_b rfl) ?_
    refine GoT.q rfl (QEx.assign rfl (.tmp rfl)) rfl (lt_b rfl) ?_
    refine GoT.nil ?_
    refine bind_e h fun r4 hr4 h => ?_
    refine Wp.seq ?_
    refine Wp.region ?_
    refine GoT.q rfl (QEx.move rfl (.tmp rfl)) rfl (lt_b rfl) ?_
    refine GoT.q rfl (QEx.cal0 (r := (iAV r4)) [(iAV 205888), (iAV r3)] rfl Tryz.call65 (.cons .con (.cons (.tmp rfl) .nil)) (ref01_Mul_ok hr4) rfl rfl) rfl (lt_b rfl) ?_
    refine GoT.q rfl (QEx.assign rfl (.tmp rfl)) rfl (lt_b rfl) ?_
    refine GoT.nil ?_
    refine Wp.seq ?_
    refine Wp.seq ?_
    refine Wp.region ?_
    refine GoT.q rfl (QEx.fldP 0 rfl uT33 rfl ts30 rfl (.tmp rfl) rfl) rfl (lt_b rfl) ?_
    refine GoT.qr rfl rfl (QEx.ldP1 (Shape.cells s) (iAV s.Kind) rfl ag30 (.tmp rfl) rfl) rfl (lt_b rfl) ?_
    refine GoT.nil ?_
    refine Wp.block ?_
    refine let_e h fun x5 hx5 h => ?_
    refine Wp.seq ?_
    refine Wp.region ?_
    refine GoT.q rfl (QEx.eqlK rfl (.tmp rfl) .con) rfl (lt_b rfl) ?_
    refine GoT.q rfl (QEx.eq (QEx.assign rfl (.tmp rfl)) (congrArg boolAV hx5)) rfl (lt_b rfl) ?_
    refine GoT.nil ?_
    refine Wp.condS h rfl (fun h => ?_) (fun h => ?_)
    · refine bind_e h fun r6 hr6 h => ?_
      refine Wp.seq ?_
      refine Wp.region ?_
      refine GoT.q rfl (QEx.move rfl (.tmp rfl)) rfl (lt_b rfl) ?_
      refine GoT.q rfl (QEx.move rfl (.tmp rfl)) rfl (lt_b rfl) ?_
      refine GoT.q rfl (QEx.cal0 (r := (iAV r6)) [(iAV r4), (iAV density)] rfl Tryz.call65 (.cons (.tmp rfl) (.cons (.tmp rfl) .nil)) (ref01_Mul_ok hr6) rfl rfl) rfl (lt_b rfl) ?_
      refine GoT.q rfl (QEx.assign rfl (.tmp rfl)) rfl (lt_b rfl) ?_
      refine GoT.nil ?_
      refine chk_e h fun c7 h => ?_
      refine bind_e h fun r8 hr8 h => ?_
      refine bind_e h fun r9 hr9 h => ?_
      refine let_e h fun x10 hx10 h => ?_
      refine Wp.seq ?_
      refine Wp.drawn2 (n0 := 11) [11] mixed ?_
      refine GoD.q rfl (QEx.move rfl (.tmp rfl)) rfl (lt_b rfl) ?_
      refine GoD.q rfl (QEx.fldP 2 rfl uT33 rfl ts31 rfl (.tmp rfl) rfl) rfl (lt_b rfl) ?_
      refine GoD.qr rfl rfl (QEx.ldP1 (Shape.cells s) ((slAV 2 Vec.av) s.Vertices) rfl ag31 (.tmp rfl) rfl) rfl (lt_b rfl) ?_
      refine GoD.q rfl (QEx.as (.cptr (Vec.cells (ix s.Vertices 0))) (QEx.idxL (E := Vec.av) rfl et31 (.tmp rfl) .con c7)) rfl (lt_b rfl) ?_
      refine GoD.q rfl (QEx.ldC (x := (Vec.av (ix s.Vertices 0))) rfl ag24 ts24 (.tmp rfl) (.inl ⟨rfl, rfl, rfl⟩)) rfl (lt_b rfl) ?_
      refine GoD.q rfl (QEx.move rfl (.tmp rfl)) rfl (lt_b rfl) ?_
      refine GoD.q rfl (QEx.move rfl (.tmp rfl)) rfl (lt_b rfl) ?_
      refine GoD.q rfl (QEx.cal0 (r := (iAV r8)) [(iAV r3), (iAV 2)] rfl Tryz.call122 (.cons (.tmp rfl) (.cons .con .nil)) (ref01_RoundDiv_ok hr8) rfl rfl) rfl (lt_b rfl) ?_
      refine GoD.q rfl (QEx.cal0 (r := (iAV r9)) [(iAV r6), (iAV r8)] rfl Tryz.call65 (.cons (.tmp rfl) (.cons (.tmp rfl) .nil)) (ref01_Mul_ok hr9) rfl rfl) rfl (lt_b rfl) ?_
      refine GoD.q rfl (QEx.as (MassData.av (⟨r6, (ix s.Vertices 0), r9⟩ : MassData)) (QEx.buildZ rfl uT49 zt49 (by kernel_rfl) (.cons rfl (.tmp rfl) rfl rfl (le_b rfl) (.cons rfl (.tmp rfl) rfl rfl (le_b rfl) (.cons rfl (.tmp rfl) rfl rfl (le_b rfl) .nil))))) rfl (lt_b rfl) ?_
      refine GoD.s rfl (Z := (MassData.cells x10)) rfl rfl ts49 (.tmp rfl) rfl (.tmp rfl) rfl rfl (le_b rfl) (congrArg (fun (x : MassData) => (MassData.cells x)) hx10) ?_
      refine GoD.nil ⟨by kernel_rfl, by kernel_rfl, by kernel_rfl, by kernel_rfl, by kernel_rfl, ?_⟩
      refine GoT.nil ?_
      refine Wp.ret ?_
      cases h
      exact LeafQ.ret [] (by decide) (.cons (.agg rfl rfl ag49 ts49) .nil) rfl
    · refine let_e h fun x11 hx11 h => ?_
      refine Wp.seq ?_
      refine Wp.region ?_
      refine GoT.q rfl (QEx.eqlK rfl (.tmp rfl) .con) rfl (lt_b rfl) ?_
      refine GoT.q rfl (QEx.eq (QEx.assign rfl (.tmp rfl)) (congrArg boolAV hx11)) rfl (lt_b rfl) ?_
      refine GoT.nil ?_
      refine Wp.condS h rfl (fun h => ?_) (fun h => ?_)
      · refine chk_e h fun c12 h => ?_
        refine chk_e h fun c13 h => ?_
        refine let_e h fun r14 hr14 h => ?_
        refine bind_e h fun r15 hr15 h => ?_
        refine Wp.seq ?_
        refine Wp.drawn2 (n0 := 11) [11] mixed ?_
        refine GoD.q rfl (QEx.fldP 2 rfl uT33 rfl ts31 rfl (.tmp rfl) rfl) rfl (lt_b rfl) ?_
        refine GoD.qr rfl rfl (QEx.ldP1 (Shape.cells s) ((slAV 2 Vec.av) s.Vertices) rfl ag31 (.tmp rfl) rfl) rfl (lt_b rfl) ?_
        refine GoD.q rfl (QEx.as (.cptr (Vec.cells (ix s.Vertices 1))) (QEx.idxL (E := Vec.av) rfl et31 (.tmp rfl) .con c12)) rfl (lt_b rfl) ?_
        refine GoD.q rfl (QEx.ldC (x := (Vec.av (ix s.Vertices 1))) rfl ag24 ts24 (.tmp rfl) (.inl ⟨rfl, rfl, rfl⟩)) rfl (lt_b rfl) ?_
        refine GoD.q rfl (QEx.fldP 2 rfl uT33 rfl ts31 rfl (.tmp rfl) rfl) rfl (lt_b rfl) ?_
        refine GoD.qr rfl rfl (QEx.ldP1 (Shape.cells s) ((slAV 2 Vec.av) s.Vertices) rfl ag31 (.tmp rfl) rfl) rfl (lt_b rfl) ?_
        refine GoD.q rfl (QEx.as (.cptr (Vec.cells (ix s.Vertices 0))) (QEx.idxL (E := Vec.av) rfl et31 (.tmp rfl) .con c13)) rfl (lt_b rfl) ?_
        refine GoD.q rfl (QEx.ldC (x := (Vec.av (ix s.Vertices 0))) rfl ag24 ts24 (.tmp rfl) (.inl ⟨rfl, rfl, rfl⟩)) rfl (lt_b rfl) ?_
        refine GoD.q rfl (QEx.cal0 (r := (Vec.av r14)) [(Vec.av (ix s.Vertices 1)), (Vec.av (ix s.Vertices 0))] rfl Tryz.call56 (.cons (.tmp rfl) (.cons (.tmp rfl) .nil)) (ref03_Sub_ok hr14) rfl rfl) rfl (lt_b rfl) ?_
        refine GoD.q rfl (QEx.cal0 (r := (iAV r15)) [(Vec.av r14)] rfl Tryz.call88 (.cons (.tmp rfl) .nil) (ref03_Length_ok hr15) rfl rfl) rfl (lt_b rfl) ?_
        refine GoD.q rfl (QEx.assign rfl (.tmp rfl)) rfl (lt_b rfl) ?_
        refine GoD.nil ⟨by kernel_rfl, by kernel_rfl, by kernel_rfl, by kernel_rfl, by kernel_rfl, ?_⟩
        refine GoT.nil ?_
        refine let_e h fun r16 hr16 h => ?_
        refine bind_e h fun r17 hr17 h => ?_
        refine let_e h fun r18 hr18 h => ?_
        refine bind_e h fun r19 hr19 h => ?_
        refine Wp.seq ?_
        refine Wp.region ?_
        refine GoT.q rfl (QEx.move rfl (.tmp rfl)) rfl (lt_b rfl) ?_
        refine GoT.q rfl (QEx.fldP 1 rfl uT33 rfl ts3 rfl (.tmp rfl) rfl) rfl (lt_b rfl) ?_
        refine GoT.qr rfl rfl (QEx.ldP1 (Shape.cells s) (iAV s.Radius) rfl ag3 (.tmp rfl) rfl) rfl (lt_b rfl) ?_
        refine GoT.q rfl (QEx.fldP 1 rfl uT33 rfl ts3 rfl (.tmp rfl) rfl) rfl (lt_b rfl) ?_
        refine GoT.qr rfl rfl (QEx.ldP1 (Shape.cells s) (iAV s.Radius) rfl ag3 (.tmp rfl) rfl) rfl (lt_b rfl) ?_
        refine GoT.q rfl (QEx.cal0 (r := (iAV r16)) [(iAV s.Radius), (iAV s.Radius)] rfl Tryz.call68 (.cons (.tmp rfl) (.cons (.tmp rfl) .nil)) (ref01_Add_ok hr16) rfl rfl) rfl (lt_b rfl) ?_
        refine GoT.q rfl (QEx.move rfl (.tmp rfl)) rfl (lt_b rfl) ?_
        refine GoT.q rfl (QEx.cal0 (r := (iAV r17)) [(iAV r16), (iAV r15)] rfl Tryz.call65 (.cons (.tmp rfl) (.cons (.tmp rfl) .nil)) (ref01_Mul_ok hr17) rfl rfl) rfl (lt_b rfl) ?_
        refine GoT.q rfl (QEx.cal0 (r := (iAV r18)) [(iAV r4), (iAV r17)] rfl Tryz.call68 (.cons (.tmp rfl) (.cons (.tmp rfl) .nil)) (ref01_Add_ok hr18) rfl rfl) rfl (lt_b rfl) ?_
        refine GoT.q rfl (QEx.move rfl (.tmp rfl)) rfl (lt_b rfl) ?_
        refine GoT.q rfl (QEx.cal0 (r := (iAV r19)) [(iAV r18), (iAV density)] rfl Tryz.call65 (.cons (.tmp rfl) (.cons (.tmp rfl) .nil)) (ref01_Mul_ok hr19) rfl rfl) rfl (lt_b rfl) ?_
        refine GoT.q rfl (QEx.assign rfl (.tmp rfl)) rfl (lt_b rfl) ?_
        refine GoT.nil ?_
        refine chk_e h fun c20 h => ?_
        refine chk_e h fun c21 h => ?_
        refine bind_e h fun r22 hr22 h => ?_
        refine bind_e h fun r23 hr23 h => ?_
        refine bind_e h fun r24 hr24 h => ?_
        refine bind_e h fun r25 hr25 h => ?_
        refine let_e h fun r26 hr26 h => ?_
        refine bind_e h fun r27 hr27 h => ?_
        refine let_e h fun x28 hx28 h => ?_
        refine Wp.seq ?_
        refine Wp.drawn2 (n0 := 21) [11] mixed ?_
        refine GoD.q rfl (QEx.move rfl (.tmp rfl)) rfl (lt_b rfl) ?_
        refine GoD.q rfl (QEx.fldP 2 rfl uT33 rfl ts31 rfl (.tmp rfl) rfl) rfl (lt_b rfl) ?_
        refine GoD.qr rfl rfl (QEx.ldP1 (Shape.cells s) ((slAV 2 Vec.av) s.Vertices) rfl ag31 (.tmp rfl) rfl) rfl (lt_b rfl) ?_
        refine GoD.q rfl (QEx.as (.cptr (Vec.cells (ix s.Vertices 0))) (QEx.idxL (E := Vec.av) rfl et31 (.tmp rfl) .con c20)) rfl (lt_b rfl) ?_
        refine GoD.q rfl (QEx.ldC (x := (Vec.av (ix s.Vertices 0))) rfl ag24 ts24 (.tmp rfl) (.inl ⟨rfl, rfl, rfl⟩)) rfl (lt_b rfl) ?_
        refine GoD.q rfl (QEx.fldP 2 rfl uT33 rfl ts31 rfl (.tmp rfl) rfl) rfl (lt_b rfl) ?_
        refine GoD.qr rfl rfl (QEx.ldP1 (Shape.cells s) ((slAV 2 Vec.av) s.Vertices) rfl ag31 (.tmp rfl) rfl) rfl (lt_b rfl) ?_
        refine GoD.q rfl (QEx.as (.cptr (Vec.cells (ix s.Vertices 1))) (QEx.idxL (E := Vec.av) rfl et31 (.tmp rfl) .con c21)) rfl (lt_b rfl) ?_
        refine GoD.q rfl (QEx.ldC (x := (Vec.av (ix s.Vertices 1))) rfl ag24 ts24 (.tmp rfl) (.inl ⟨rfl, rfl, rfl⟩)) rfl (lt_b rfl) ?_
        refine GoD.q rfl (QEx.cal0 (r := (Vec.av r22)) [(Vec.av (ix s.Vertices 0)), (Vec.av (ix s.Vertices 1)), (iAV 32768)] rfl Tryz.call145 (.cons (.tmp rfl) (.cons (.tmp rfl) (.cons .con .nil))) (ref03_Lerp_ok hr22) rfl rfl) rfl (lt_b rfl) ?_
        refine GoD.q rfl (QEx.move rfl (.tmp rfl)) rfl (lt_b rfl) ?_
        refine GoD.q rfl (QEx.move rfl (.tmp rfl)) rfl (lt_b rfl) ?_
        refine GoD.q rfl (QEx.cal0 (r := (iAV r23)) [(iAV r3), (iAV 2)] rfl Tryz.call122 (.cons (.tmp rfl) (.cons .con .nil)) (ref01_RoundDiv_ok hr23) rfl rfl) rfl (lt_b rfl) ?_
        refine GoD.q rfl (QEx.move rfl (.tmp rfl)) rfl (lt_b rfl) ?_
        refine GoD.q rfl (QEx.move rfl (.tmp rfl)) rfl (lt_b rfl) ?_
        refine GoD.q rfl (QEx.cal0 (r := (iAV r24)) [(iAV r15), (iAV r15)] rfl Tryz.call65 (.cons (.tmp rfl) (.cons (.tmp rfl) .nil)) (ref01_Mul_ok hr24) rfl rfl) rfl (lt_b rfl) ?_
        refine GoD.q rfl (QEx.cal0 (r := (iAV r25)) [(iAV r24), (iAV 12)] rfl Tryz.call122 (.cons (.tmp rfl) (.cons .con .nil)) (ref01_RoundDiv_ok hr25) rfl rfl) rfl (lt_b rfl) ?_
        refine GoD.q rfl (QEx.cal0 (r := (iAV r26)) [(iAV r23), (iAV r25)] rfl Tryz.call68 (.cons (.tmp rfl) (.cons (.tmp rfl) .nil)) (ref01_Add_ok hr26) rfl rfl) rfl (lt_b rfl) ?_
        refine GoD.q rfl (QEx.cal0 (r := (iAV r27)) [(iAV r19), (iAV r26)] rfl Tryz.call65 (.cons (.tmp rfl) (.cons (.tmp rfl) .nil)) (ref01_Mul_ok hr27) rfl rfl) rfl (lt_b rfl) ?_
        refine GoD.q rfl (QEx.as (MassData.av (⟨r19, r22, r27⟩ : MassData)) (QEx.buildZ rfl uT49 zt49 (by kernel_rfl) (.cons rfl (.tmp rfl) rfl rfl (le_b rfl) (.cons rfl (.tmp rfl) rfl rfl (le_b rfl) (.cons rfl (.tmp rfl) rfl rfl (le_b rfl) .nil))))) rfl (lt_b rfl) ?_
        refine GoD.s rfl (Z := (MassData.cells x28)) rfl rfl ts49 (.tmp rfl) rfl (.tmp rfl) rfl rfl (le_b rfl) (congrArg (fun (x : MassData) => (MassData.cells x)) hx28) ?_
        refine GoD.nil ⟨by kernel_rfl, by kernel_rfl, by kernel_rfl, by kernel_rfl, by kernel_rfl, ?_⟩
        refine GoT.nil ?_
        refine Wp.ret ?_
        cases h
        exact LeafQ.ret [] (by decide) (.cons (.agg rfl rfl ag49 ts49) .nil) rfl
      · refine Wp.skip ?_
        refine bind_e h fun r29 hr29 h => ?_
        refine bind_e h fun r30 hr30 h => ?_
        refine Wp.seq ?_
        refine Wp.region ?_
        refine GoT.q rfl (QEx.fldP 2 rfl uT33 rfl ts31 rfl (.tmp rfl) rfl) rfl (lt_b rfl) ?_
        refine GoT.qr rfl rfl (QEx.ldP1 (Shape.cells s) ((slAV 2 Vec.av) s.Vertices) rfl ag31 (.tmp rfl) rfl) rfl (lt_b rfl) ?_
        refine GoT.q rfl (QEx.cal0 (r := (iAV r29)) [((slAV 2 Vec.av) s.Vertices)] rfl Tryz.call91 (.cons (.tmp rfl) .nil) (ref11_Area_ok hr29) rfl rfl) rfl (lt_b rfl) ?_
        refine GoT.q rfl (QEx.move rfl (.tmp rfl)) rfl (lt_b rfl) ?_
        refine GoT.q rfl (QEx.cal0 (r := (iAV r30)) [(iAV r29), (iAV density)] rfl Tryz.call65 (.cons (.tmp rfl) (.cons (.tmp rfl) .nil)) (ref01_Mul_ok hr30) rfl rfl) rfl (lt_b rfl) ?_
        refine GoT.q rfl (QEx.assign rfl (.tmp rfl)) rfl (lt_b rfl) ?_
        refine GoT.nil ?_
        refine bind_e h fun r31 hr31 h => ?_
        refine let_e h fun x32 hx32 h => ?_
        refine Wp.seq ?_
        refine Wp.region ?_
        refine GoT.q rfl (QEx.fldP 2 rfl uT33 rfl ts31 rfl (.tmp rfl) rfl) rfl (lt_b rfl) ?_
        refine GoT.qr rfl rfl (QEx.ldP1 (Shape.cells s) ((slAV 2 Vec.av) s.Vertices) rfl ag31 (.tmp rfl) rfl) rfl (lt_b rfl) ?_
        refine GoT.q rfl (QEx.cal0 (r := (Vec.av r31)) [((slAV 2 Vec.av) s.Vertices)] rfl Tryz.call146 (.cons (.tmp rfl) .nil) (ref11_Centroid_ok hr31) rfl rfl) rfl (lt_b rfl) ?_
        refine GoT.a rfl (AEx.alZ rfl zt24 rfl rfl) rfl (lt_b rfl) ?_
        refine GoT.s rfl (AEx.sto (Z := (Vec.cells x32)) rfl rfl ts24 (.tmp rfl) rfl (.tmp rfl) rfl rfl (le_b rfl) (congrArg (fun (x : Vec) => (Vec.cells x)) hx32)) rfl ?_
        refine GoT.nil ?_
        refine bind_e h fun r33 hr33 h => ?_
        refine let_e h fun x34 hx34 h => ?_
        refine Wp.seq ?_
        refine Wp.drawn2 (n0 := 9) [] mixed ?_
        refine GoD.q rfl (QEx.move rfl (.tmp rfl)) rfl (lt_b rfl) ?_
        refine GoD.qr rfl rfl (QEx.ldP (Vec.cells x32) (Vec.av x32) rfl ag24 ts24 (.tmp rfl) (le_b rfl) rfl) rfl (lt_b rfl) ?_
        refine GoD.q rfl (QEx.fldP 2 rfl uT33 rfl ts31 rfl (.tmp rfl) rfl) rfl (lt_b rfl) ?_
        refine GoD.qr rfl rfl (QEx.ldP1 (Shape.cells s) ((slAV 2 Vec.av) s.Vertices) rfl ag31 (.tmp rfl) rfl) rfl (lt_b rfl) ?_
        refine GoD.qr rfl rfl (QEx.ldP (Vec.cells x32) (Vec.av x32) rfl ag24 ts24 (.tmp rfl) (le_b rfl) rfl) rfl (lt_b rfl) ?_
        refine GoD.q rfl (QEx.move rfl (.tmp rfl)) rfl (lt_b rfl) ?_
        refine GoD.q rfl (QEx.cal0 (r := (iAV r33)) [((slAV 2 Vec.av) s.Vertices), (Vec.av x32), (iAV r30)] rfl Tryz.call147 (.cons (.tmp rfl) (.cons (.tmp rfl) (.cons (.tmp rfl) .nil))) (ref13_polygonInertia_ok hr33) rfl rfl) rfl (lt_b rfl) ?_
        refine GoD.q rfl (QEx.as (MassData.av (⟨r30, x32, r33⟩ : MassData)) (QEx.buildZ rfl uT49 zt49 (by kernel_rfl) (.cons rfl (.tmp rfl) rfl rfl (le_b rfl) (.cons rfl (.tmp rfl) rfl rfl (le_b rfl) (.cons rfl (.tmp rfl) rfl rfl (le_b rfl) .nil))))) rfl (lt_b rfl) ?_
        refine GoD.s rfl (Z := (MassData.cells x34)) rfl rfl ts49 (.tmp rfl) rfl (.tmp rfl) rfl rfl (le_b rfl) (congrArg (fun (x : MassData) => (MassData.cells x)) hx34) ?_
        refine GoD.nil ⟨by kernel_rfl, by kernel_rfl, by kernel_rfl, by kernel_rfl, by kernel_rfl, ?_⟩
        refine GoT.nil ?_
        refine Wp.ret ?_
        cases h
        exact LeafQ.ret [] (by decide) (.cons (.agg rfl rfl ag49 ts49) .nil) rfl
theorem ref13_Combine_ok {l : List MassData} {r : MassData} (h : ref13_Combine l = some r) : FnR Tryz.prog 104 [((slAV 4 MassData.av) l)] (MassData.av r) := by
  refine FnR.intro' (fn := Tryz.f104) (N := 111) Tryz.func104 rfl rfl (Nat.le_of_ble_eq_true rfl) [2, 3, 10, 11, 16, 21, 28, 44, 55, 75, 80, 90, 99] ?_
  refine Wp.seq ?_
  refine Wp.region ?_
  refine GoT.a rfl (AEx.alZ rfl zt49 rfl rfl) rfl (lt_b rfl) ?_
  refine GoT.nil ?_
  refine Wp.seq ?_
  refine Wp.seq ?_
  refine Wp.region ?_
  refine GoT.q rfl (QEx.move rfl (.tmp rfl)) rfl (lt_b rfl) ?_
  refine GoT.q rfl (QEx.lenL rfl ⟨_, uT95⟩ (.tmp rfl)) rfl (lt_b rfl) ?_
  refine GoT.q rfl (QEx.gtrK rfl (.tmp rfl) .con) rfl (lt_b rfl) ?_
  refine GoT.nil ?_
  refine Wp.condS h rfl (fun h => ?_) (fun h => ?_)
  · refine let_e h fun x1 hx1 h => ?_
    refine Wp.seq ?_
    refine Wp.region ?_
    refine GoT.q rfl (QEx.as (MassData.av (⟨0, Vec.zero, 0⟩ : MassData)) (QEx.buildZ rfl uT49 zt49 (by kernel_rfl) .nil)) rfl (lt_b rfl) ?_
    refine GoT.s rfl (AEx.sto (Z := (MassData.cells x1)) rfl rfl ts49 (.tmp rfl) rfl (.tmp rfl) rfl rfl (le_b rfl) (congrArg (fun (x : MassData) => (MassData.cells x)) hx1)) rfl ?_
    refine GoT.nil ?_
    refine Wp.ret ?_
    cases h
    exact LeafQ.ret [] (by decide) (.cons (.agg rfl rfl ag49 ts49) .nil) rfl
  · refine Wp.skip ?_
    refine Wp.seq ?_
    refine Wp.region ?_
    refine GoT.a rfl (AEx.alZ rfl zt49 rfl rfl) rfl (lt_b rfl) ?_
    refine GoT.nil ?_
    refine Wp.seq ?_
    refine Wp.region ?_
    refine GoT.q rfl (QEx.as (iAV 0) (QEx.assign rfl .con)) rfl (lt_b rfl) ?_
    refine GoT.q rfl (QEx.as (iAV 0) (QEx.assign rfl .con)) rfl (lt_b rfl) ?_
    refine GoT.q rfl (QEx.as (iAV 0) (QEx.assign rfl .con)) rfl (lt_b rfl) ?_
    refine GoT.nil ?_
    refine Wp.join5 (fun v2 v3 v4 v5 v6 => ⟨[(0, ((slAV 4 MassData.av) l)), (2, (.ptr 2 0)), (3, (.ptr 3 0)), (4, (iAV v2)), (5, (iAV v3)), (6, (iAV v4))], [(2, .cells (MassData.cells v5)), (3, .cells (MassData.cells v6))], [10, 11, 16, 21, 28, 44, 55, 75, 80, 90, 99]⟩) (fun v2 v3 v4 v5 v6 => (ref13_Combine_j5 l) v2 v3 v4 v5 v6 = some r) ?_ ?_
    · intro v2 v3 v4 v5 v6 h
      refine Wp.join1 (fun v27 => ⟨[(0, ((slAV 4 MassData.av) l)), (2, (.ptr 2 0)), (3, (.ptr 3 0))], [(2, .cells (MassData.cells v5)), (3, .cells (MassData.cells v27))], [10, 11, 16, 21, 28, 44, 55, 75, 80, 90, 99]⟩) (fun v27 => (ref13_Combine_j4 l) v27 = some r) ?_ ?_
      · intro v27 h
        refine Wp.join1 (fun v31 => ⟨[(2, (.ptr 2 0)), (3, (.ptr 3 0))], [(2, .cells (MassData.cells v5)), (3, .cells (MassData.cells v31))], [10, 11, 16, 21, 28, 44, 55, 75, 80, 90, 99]⟩) (fun v31 => ref13_Combine_j3 v31 = some r) ?_ ?_
        · intro v31 h
          refine let_e h fun x46 hx46 h => ?_
          refine Wp.seq ?_
          refine Wp.region ?_
          refine GoT.qr rfl rfl (QEx.ldP (MassData.cells v31) (MassData.av v31) rfl ag49 ts49 (.tmp rfl) (le_b rfl) rfl) rfl (lt_b rfl) ?_
          refine GoT.s rfl (AEx.sto (Z := (MassData.cells x46)) rfl rfl ts49 (.tmp rfl) rfl (.tmp rfl) rfl rfl (le_b rfl) (congrArg (fun (x : MassData) => (MassData.cells x)) hx46)) rfl ?_
          refine GoT.nil ?_
          refine Wp.ret ?_
          cases h
          exact LeafQ.ret [] (by decide) (.cons (.agg rfl rfl ag49 ts49) .nil) rfl
        · refine Wp.seq ?_
          refine Wp.region ?_
          refine GoT.q rfl (QEx.as (iAV 0) (QEx.assign rfl .con)) rfl (lt_b rfl) ?_
          refine GoT.nil ?_
          refine Wp.block ?_
          refine Wp.loop2 (fun v32 v33 => ⟨[(0, ((slAV 4 MassData.av) l)), (2, (.ptr 2 0)), (3, (.ptr 3 0)), (9, (iAV v32))], [(2, .cells (MassData.cells v5)), (3, .cells (MassData.cells v33))], [10, 11, 16, 21, 28, 44, 55, 75, 80, 90, 99]⟩) (fun n v32 v33 => ref13_Combine_l2 l ref13_Combine_j3 n v32 v33 = some r) fuel 0 v27 [] [] h (LS.to.mk (.b rfl rfl (.r rfl rfl (.r rfl rfl (.b rfl rfl .n)))) (.b rfl rfl rfl (.b rfl rfl rfl .n)) rfl) ?_
          rintro (_ | n5) v32 v33 h
          · exact none_e h
          rw [ref13_Combine_l2] at h
          refine Wp.seq ?_
          refine Wp.seq ?_
          refine Wp.region ?_
          refine GoT.q rfl (QEx.move rfl (.tmp rfl)) rfl (lt_b rfl) ?_
          refine GoT.q rfl (QEx.move rfl (.tmp rfl)) rfl (lt_b rfl) ?_
          refine GoT.q rfl (QEx.lenL rfl ⟨_, uT95⟩ (.tmp rfl)) rfl (lt_b rfl) ?_
          refine GoT.q rfl (QEx.lssK rfl (.tmp rfl) (.tmp rfl)) rfl (lt_b rfl) ?_
          refine GoT.nil ?_
          refine Wp.condS h rfl (fun h => ?_) (fun h => ?_)
          · refine Wp.skip ?_
            refine Wp.seq ?_
            refine Wp.block ?_
            refine chk_e h fun c34 h => ?_
            refine let_e h fun r35 hr35 h => ?_
            refine let_e h fun x36 hx36 h => ?_
            refine Wp.seq ?_
            refine Wp.drawn2 (n0 := 10) [11, 16, 21, 28, 44, 55, 75, 80, 90, 99] mixed ?_
            refine GoD.q rfl (QEx.move rfl (.tmp rfl)) rfl (lt_b rfl) ?_
            refine GoD.q rfl (QEx.move rfl (.tmp rfl)) rfl (lt_b rfl) ?_
            refine GoD.q rfl (QEx.as (.cptr (MassData.cells (ix l v32))) (QEx.idxL (E := MassData.av) rfl et95 (.tmp rfl) (.tmp rfl) c34)) rfl (lt_b rfl) ?_
            refine GoD.q rfl (QEx.fldC (Vec.cells ((ix l v32).Center)) rfl uT49 rfl ts24 rfl (.tmp rfl) rfl) rfl (lt_b rfl) ?_
            refine GoD.q rfl (QEx.ldC (x := (Vec.av ((ix l v32).Center))) rfl ag24 ts24 (.tmp rfl) (.inl ⟨rfl, rfl, rfl⟩)) rfl (lt_b rfl) ?_
            refine GoD.q rfl (QEx.fldP 1 rfl uT49 rfl ts24 rfl (.tmp rfl) rfl) rfl (lt_b rfl) ?_
            refine GoD.qr rfl rfl (QEx.ldP (MassData.cells v33) (Vec.av v33.Center) rfl ag24 ts24 (.tmp rfl) (le_b rfl) rfl) rfl (lt_b rfl) ?_
            refine GoD.q rfl (QEx.cal0 (r := (Vec.av r35)) [(Vec.av ((ix l v32).Center)), (Vec.av v33.Center)] rfl Tryz.call56 (.cons (.tmp rfl) (.cons (.tmp rfl) .nil)) (ref03_Sub_ok hr35) rfl rfl) rfl (lt_b rfl) ?_
            refine GoD.al rfl rfl zt24 rfl (lt_b rfl) ?_
            refine GoD.s rfl (Z := (Vec.cells x36)) rfl rfl ts24 (.tmp rfl) rfl (.tmp rfl) rfl rfl (le_b rfl) (congrArg (fun (x : Vec) => (Vec.cells x)) hx36) ?_
            refine GoD.nil ⟨by kernel_rfl, by kernel_rfl, by kernel_rfl, by kernel_rfl, by kernel_rfl, ?_⟩
            refine GoT.nil ?_
            refine chk_e h fun c37 h => ?_
            refine let_e h fun r38 hr38 h => ?_
            refine let_e h fun x39 hx39 h => ?_
            refine Wp.seq ?_
            refine Wp.drawn2 (n0 := 10) [11, 16, 21, 28, 44, 55, 75, 80, 90, 99] mixed ?_
            refine GoD.q rfl (QEx.fldP 3 rfl uT49 rfl ts3 rfl (.tmp rfl) rfl) rfl (lt_b rfl) ?_
            refine GoD.qr rfl rfl (QEx.ldP1 (MassData.cells v33) (iAV v33.Inertia) rfl ag3 (.tmp rfl) rfl) rfl (lt_b rfl) ?_
            refine GoD.q rfl (QEx.move rfl (.tmp rfl)) rfl (lt_b rfl) ?_
            refine GoD.q rfl (QEx.move rfl (.tmp rfl)) rfl (lt_b rfl) ?_
            refine GoD.q rfl (QEx.as (.cptr (MassData.cells (ix l v32))) (QEx.idxL (E := MassData.av) rfl et95 (.tmp rfl) (.tmp rfl) c37)) rfl (lt_b rfl) ?_
            refine GoD.q rfl (QEx.fldC [(iAV ((ix l v32).Inertia))] rfl uT49 rfl ts3 rfl (.tmp rfl) rfl) rfl (lt_b rfl) ?_
            refine GoD.q rfl (QEx.ldC (x := (iAV ((ix l v32).Inertia))) rfl ag3 ts3 (.tmp rfl) (.inr ⟨rfl, rfl⟩)) rfl (lt_b rfl) ?_
            refine GoD.q rfl (QEx.cal0 (r := (iAV r38)) [(iAV v33.Inertia), (iAV ((ix l v32).Inertia))] rfl Tryz.call68 (.cons (.tmp rfl) (.cons (.tmp rfl) .nil)) (ref01_Add_ok hr38) rfl rfl) rfl (lt_b rfl) ?_
            refine GoD.q rfl (QEx.fldP 3 rfl uT49 rfl ts3 rfl (.tmp rfl) rfl) rfl (lt_b rfl) ?_
            refine GoD.s rfl (Z := (MassData.cells x39)) rfl rfl ts3 (.tmp rfl) rfl (.tmp rfl) rfl rfl (le_b rfl) (congrArg (fun (x : MassData) => (MassData.cells x)) hx39) ?_
            refine GoD.nil ⟨by kernel_rfl, by kernel_rfl, by kernel_rfl, by kernel_rfl, by kernel_rfl, ?_⟩
            refine GoT.nil ?_
            refine chk_e h fun c40 h => ?_
            refine bind_e h fun r41 hr41 h => ?_
            refine bind_e h fun r42 hr42 h => ?_
            refine let_e h fun r43 hr43 h => ?_
            refine let_e h fun x44 hx44 h => ?_
            refine Wp.drawn2 (n0 := 14) [11, 16, 21, 28, 44, 55, 75, 80, 90, 99] mixed ?_
            refine GoD.q rfl (QEx.fldP 3 rfl uT49 rfl ts3 rfl (.tmp rfl) rfl) rfl (lt_b rfl) ?_
            refine GoD.qr rfl rfl (QEx.ldP1 (MassData.cells x39) (iAV x39.Inertia) rfl ag3 (.tmp rfl) rfl) rfl (lt_b rfl) ?_
            refine GoD.q rfl (QEx.move rfl (.tmp rfl)) rfl (lt_b rfl) ?_
            refine GoD.q rfl (QEx.move rfl (.tmp rfl)) rfl (lt_b rfl) ?_
            refine GoD.q rfl (QEx.as (.cptr (MassData.cells (ix l v32))) (QEx.idxL (E := MassData.av) rfl et95 (.tmp rfl) (.tmp rfl) c40)) rfl (lt_b rfl) ?_
            refine GoD.q rfl (QEx.fldC [(iAV ((ix l v32).Mass))] rfl uT49 rfl ts3 rfl (.tmp rfl) rfl) rfl (lt_b rfl) ?_
            refine GoD.q rfl (QEx.ldC (x := (iAV ((ix l v32).Mass))) rfl ag3 ts3 (.tmp rfl) (.inr ⟨rfl, rfl⟩)) rfl (lt_b rfl) ?_
            refine GoD.qr rfl rfl (QEx.ldP (Vec.cells x36) (Vec.av x36) rfl ag24 ts24 (.tmp rfl) (le_b rfl) rfl) rfl (lt_b rfl) ?_
            refine GoD.qr rfl rfl (QEx.ldP (Vec.cells x36) (Vec.av x36) rfl ag24 ts24 (.tmp rfl) (le_b rfl) rfl) rfl (lt_b rfl) ?_
            refine GoD.q rfl (QEx.cal0 (r := (iAV r41)) [(Vec.av x36), (Vec.av x36)] rfl Tryz.call148 (.cons (.tmp rfl) (.cons (.tmp rfl) .nil)) (ref03_Dot_ok hr41) rfl rfl) rfl (lt_b rfl) ?_
            refine GoD.q rfl (QEx.cal0 (r := (iAV r42)) [(iAV ((ix l v32).Mass)), (iAV r41)] rfl Tryz.call65 (.cons (.tmp rfl) (.cons (.tmp rfl) .nil)) (ref01_Mul_ok hr42) rfl rfl) rfl (lt_b rfl) ?_
            refine GoD.q rfl (QEx.cal0 (r := (iAV r43)) [(iAV x39.Inertia), (iAV r42)] rfl Tryz.call68 (.cons (.tmp rfl) (.cons (.tmp rfl) .nil)) (ref01_Add_ok hr43) rfl rfl) rfl (lt_b rfl) ?_
            refine GoD.q rfl (QEx.fldP 3 rfl uT49 rfl ts3 rfl (.tmp rfl) rfl) rfl (lt_b rfl) ?_
            refine GoD.s rfl (Z := (MassData.cells x44)) rfl rfl ts3 (.tmp rfl) rfl (.tmp rfl) rfl rfl (le_b rfl) (congrArg (fun (x : MassData) => (MassData.cells x)) hx44) ?_
            refine GoD.nil ⟨by kernel_rfl, by kernel_rfl, by kernel_rfl, by kernel_rfl, by kernel_rfl, ?_⟩
            refine GoT.nil ?_
            refine let_e h fun x45 hx45 h => ?_
            refine Wp.region ?_
            refine GoT.q rfl (QEx.move rfl (.tmp rfl)) rfl (lt_b rfl) ?_
            refine GoT.q rfl (QEx.addK rfl (.tmp rfl) .con) rfl (lt_b rfl) ?_
            refine GoT.q rfl (QEx.eq (QEx.assign rfl (.tmp rfl)) (congrArg iAV hx45)) rfl (lt_b rfl) ?_
            refine GoT.nil ?_
            exact Round2.mk x45 x44 [10] [] h (LS.to.mk (.b rfl rfl (.r rfl rfl (.r rfl rfl (.b rfl rfl .n)))) (.b rfl rfl rfl (.b rfl rfl rfl .n)) rfl)
          · refine Wp.exit ?_
            exact Joined1.mk v33 [] [] h (LS.to.mk (.r rfl rfl (.r rfl rfl .n)) (.b rfl rfl rfl (.b rfl rfl rfl .n)) rfl)
      · refine Wp.seq ?_
        refine Wp.region ?_
        refine GoT.q rfl (QEx.move rfl (.tmp rfl)) rfl (lt_b rfl) ?_
        refine GoT.q rfl (QEx.gtrK rfl (.tmp rfl) .con) rfl (lt_b rfl) ?_
        refine GoT.nil ?_
        refine Wp.condS h rfl (fun h => ?_) (fun h => ?_)
        · refine bind_e h fun r28 hr28 h => ?_
          refine bind_e h fun r29 hr29 h => ?_
          refine let_e h fun x30 hx30 h => ?_
          refine Wp.region ?_
          refine GoT.q rfl (QEx.move rfl (.tmp rfl)) rfl (lt_b rfl) ?_
          refine GoT.q rfl (QEx.move rfl (.tmp rfl)) rfl (lt_b rfl) ?_
          refine GoT.q rfl (QEx.cal0 (r := (iAV r28)) [(iAV v3), (iAV v2)] rfl Tryz.call122 (.cons (.tmp rfl) (.cons (.tmp rfl) .nil)) (ref01_RoundDiv_ok hr28) rfl rfl) rfl (lt_b rfl) ?_
          refine GoT.q rfl (QEx.move rfl (.tmp rfl)) rfl (lt_b rfl) ?_
          refine GoT.q rfl (QEx.move rfl (.tmp rfl)) rfl (lt_b rfl) ?_
          refine GoT.q rfl (QEx.cal0 (r := (iAV r29)) [(iAV v4), (iAV v2)] rfl Tryz.call122 (.cons (.tmp rfl) (.cons (.tmp rfl) .nil)) (ref01_RoundDiv_ok hr29) rfl rfl) rfl (lt_b rfl) ?_
          refine GoT.q rfl (QEx.as (Vec.av (⟨r28, r29⟩ : Vec)) (QEx.buildZ rfl uT24 zt24 (by kernel_rfl) (.cons rfl (.tmp rfl) rfl rfl (le_b rfl) (.cons rfl (.tmp rfl) rfl rfl (le_b rfl) .nil)))) rfl (lt_b rfl) ?_
          refine GoT.q rfl (QEx.fldP 1 rfl uT49 rfl ts24 rfl (.tmp rfl) rfl) rfl (lt_b rfl) ?_
          refine GoT.s rfl (AEx.sto (Z := (MassData.cells x30)) rfl rfl ts24 (.tmp rfl) rfl (.tmp rfl) rfl rfl (le_b rfl) (congrArg (fun (x : MassData) => (MassData.cells x)) hx30)) rfl ?_
          refine GoT.nil ?_
          exact Joined1.mk x30 [] [] h (LS.to.mk (.b rfl rfl (.r rfl rfl (.r rfl rfl .n))) (.b rfl rfl rfl (.b rfl rfl rfl .n)) rfl)
        · refine Wp.skip ?_
          exact Joined1.mk v6 [] [] h (LS.to.mk (.b rfl rfl (.r rfl rfl (.r rfl rfl .n))) (.b rfl rfl rfl (.b rfl rfl rfl .n)) rfl)
    · refine Wp.seq ?_
      refine Wp.region ?_
      refine GoT.q rfl (QEx.as (iAV 0) (QEx.assign rfl .con)) rfl (lt_b rfl) ?_
      refine GoT.nil ?_
      refine Wp.block ?_
      refine Wp.loop6 (fun v7 v8 v9 v10 v11 v12 => ⟨[(0, ((slAV 4 MassData.av) l)), (2, (.ptr 2 0)), (3, (.ptr 3 0)), (4, (iAV v7)), (5, (iAV v8)), (6, (iAV v9)), (7, (iAV v10))], [(2, .cells (MassData.cells v11)), (3, .cells (MassData.cells v12))], [10, 11, 16, 21, 28, 44, 55, 75, 80, 90, 99]⟩) (fun n v7 v8 v9 v10 v11 v12 => ref13_Combine_l1 l (ref13_Combine_j5 l) n v7 v8 v9 v10 v11 v12 = some r) fuel 0 0 0 0 MassData.zero MassData.zero [] [] h (LS.to.mk (.b rfl rfl (.r rfl rfl (.r rfl rfl (.b rfl rfl (.b rfl rfl (.b rfl rfl (.b rfl rfl .n))))))) (.b rfl rfl rfl (.b rfl rfl rfl .n)) rfl) ?_
      rintro (_ | n2) v7 v8 v9 v10 v11 v12 h
      · exact none_e h
      rw [ref13_Combine_l1] at h
      refine Wp.seq ?_
      refine Wp.seq ?_
      refine Wp.region ?_
      refine GoT.q rfl (QEx.move rfl (.tmp rfl)) rfl (lt_b rfl) ?_
      refine GoT.q rfl (QEx.move rfl (.tmp rfl)) rfl (lt_b rfl) ?_
      refine GoT.q rfl (QEx.lenL rfl ⟨_, uT95⟩ (.tmp rfl)) rfl (lt_b rfl) ?_
      refine GoT.q rfl (QEx.lssK rfl (.tmp rfl) (.tmp rfl)) rfl (lt_b rfl) ?_
      refine GoT.nil ?_
      refine Wp.condS h rfl (fun h => ?_) (fun h => ?_)
      · refine Wp.skip ?_
        refine Wp.seq ?_
        refine Wp.block ?_
        refine Wp.seq ?_
        refine chk_e h fun c13 h => ?_
        refine Wp.seq ?_
        refine Wp.region ?_
        refine GoT.q rfl (QEx.move rfl (.tmp rfl)) rfl (lt_b rfl) ?_
        refine GoT.q rfl (QEx.move rfl (.tmp rfl)) rfl (lt_b rfl) ?_
        refine GoT.q rfl (QEx.as (.cptr (MassData.cells (ix l v10))) (QEx.idxL (E := MassData.av) rfl et95 (.tmp rfl) (.tmp rfl) c13)) rfl (lt_b rfl) ?_
        refine GoT.q rfl (QEx.fldC [(iAV ((ix l v10).Mass))] rfl uT49 rfl ts3 rfl (.tmp rfl) rfl) rfl (lt_b rfl) ?_
        refine GoT.q rfl (QEx.ldC (x := (iAV ((ix l v10).Mass))) rfl ag3 ts3 (.tmp rfl) (.inr ⟨rfl, rfl⟩)) rfl (lt_b rfl) ?_
        refine GoT.q rfl (QEx.lssK rfl (.tmp rfl) .con) rfl (lt_b rfl) ?_
        refine GoT.nil ?_
        refine Wp.condS h rfl (fun h => ?_) (fun h => ?_)
        · refine let_e h fun x14 hx14 h => ?_
          refine Wp.seq ?_
          refine Wp.region ?_
          refine GoT.q rfl (QEx.as (MassData.av (⟨0, Vec.zero, 0⟩ : MassData)) (QEx.buildZ rfl uT49 zt49 (by kernel_rfl) .nil)) rfl (lt_b rfl) ?_
          refine GoT.s rfl (AEx.sto (Z := (MassData.cells x14)) rfl rfl ts49 (.tmp rfl) rfl (.tmp rfl) rfl rfl (le_b rfl) (congrArg (fun (x : MassData) => (MassData.cells x)) hx14)) rfl ?_
          refine GoT.nil ?_
          refine Wp.ret ?_
          cases h
          exact LeafQ.ret [] (by decide) (.cons (.agg rfl rfl ag49 ts49) .nil) rfl
        · refine Wp.skip ?_
          refine chk_e h fun c15 h => ?_
          refine let_e h fun r16 hr16 h => ?_
          refine Wp.seq ?_
          refine Wp.region ?_
          refine GoT.q rfl (QEx.move rfl (.tmp rfl)) rfl (lt_b rfl) ?_
          refine GoT.q rfl (QEx.move rfl (.tmp rfl)) rfl (lt_b rfl) ?_
          refine GoT.q rfl (QEx.as (.cptr (MassData.cells (ix l v10))) (QEx.idxL (E := MassData.av) rfl et95 (.tmp rfl) (.tmp rfl) c15)) rfl (lt_b rfl) ?_
          refine GoT.q rfl (QEx.fldC [(iAV ((ix l v10).Mass))] rfl uT49 rfl ts3 rfl (.tmp rfl) rfl) rfl (lt_b rfl) ?_
          refine GoT.q rfl (QEx.ldC (x := (iAV ((ix l v10).Mass))) rfl ag3 ts3 (.tmp rfl) (.inr ⟨rfl, rfl⟩)) rfl (lt_b rfl) ?_
          refine GoT.q rfl (QEx.cal0 (r := (iAV r16)) [(iAV ((ix l v10).Mass))] rfl Tryz.call121 (.cons (.tmp rfl) .nil) (ref01_Saturate_ok hr16) rfl rfl) rfl (lt_b rfl) ?_
          refine GoT.q rfl (QEx.assign rfl (.tmp rfl)) rfl (lt_b rfl) ?_
          refine GoT.nil ?_
          refine let_e h fun r17 hr17 h => ?_
          refine let_e h fun x18 hx18 h => ?_
          refine Wp.seq ?_
          refine Wp.region ?_
          refine GoT.q rfl (QEx.fldP 0 rfl uT49 rfl ts3 rfl (.tmp rfl) rfl) rfl (lt_b rfl) ?_
          refine GoT.qr rfl rfl (QEx.ldP1 (MassData.cells v12) (iAV v12.Mass) rfl ag3 (.tmp rfl) rfl) rfl (lt_b rfl) ?_
          refine GoT.q rfl (QEx.move rfl (.tmp rfl)) rfl (lt_b rfl) ?_
          refine GoT.q rfl (QEx.cal0 (r := (iAV r17)) [(iAV v12.Mass), (iAV r16)] rfl Tryz.call68 (.cons (.tmp rfl) (.cons (.tmp rfl) .nil)) (ref01_Add_ok hr17) rfl rfl) rfl (lt_b rfl) ?_
          refine GoT.q rfl (QEx.fldP 0 rfl uT49 rfl ts3 rfl (.tmp rfl) rfl) rfl (lt_b rfl) ?_
          refine GoT.s rfl (AEx.sto (Z := (MassData.cells x18)) rfl rfl ts3 (.tmp rfl) rfl (.tmp rfl) rfl rfl (le_b rfl) (congrArg (fun (x : MassData) => (MassData.cells x)) hx18)) rfl ?_
          refine GoT.nil ?_
          refine let_e h fun x19 hx19 h => ?_
          refine Wp.seq ?_
          refine Wp.region ?_
          refine GoT.q rfl (QEx.move rfl (.tmp rfl)) rfl (lt_b rfl) ?_
          refine GoT.q rfl (QEx.move rfl (.tmp rfl)) rfl (lt_b rfl) ?_
          refine GoT.q rfl (QEx.addK rfl (.tmp rfl) (.tmp rfl)) rfl (lt_b rfl) ?_
          refine GoT.q rfl (QEx.eq (QEx.assign rfl (.tmp rfl)) (congrArg iAV hx19)) rfl (lt_b rfl) ?_
          refine GoT.nil ?_
          refine chk_e h fun c20 h => ?_
          refine let_e h fun r21 hr21 h => ?_
          refine let_e h fun x22 hx22 h => ?_
          refine Wp.seq ?_
          refine Wp.region ?_
          refine GoT.q rfl (QEx.move rfl (.tmp rfl)) rfl (lt_b rfl) ?_
          refine GoT.q rfl (QEx.move rfl (.tmp rfl)) rfl (lt_b rfl) ?_
          refine GoT.q rfl (QEx.move rfl (.tmp rfl)) rfl (lt_b rfl) ?_
          refine GoT.q rfl (QEx.move rfl (.tmp rfl)) rfl (lt_b rfl) ?_
          refine GoT.q rfl (QEx.as (.cptr (MassData.cells (ix l v10))) (QEx.idxL (E := MassData.av) rfl et95 (.tmp rfl) (.tmp rfl) c20)) rfl (lt_b rfl) ?_
          refine GoT.q rfl (QEx.fldC (Vec.cells ((ix l v10).Center)) rfl uT49 rfl ts24 rfl (.tmp rfl) rfl) rfl (lt_b rfl) ?_
          refine GoT.q rfl (QEx.fldC [(iAV (((ix l v10).Center).X))] rfl uT24 rfl ts3 rfl (.tmp rfl) rfl) rfl (lt_b rfl) ?_
          refine GoT.q rfl (QEx.ldC (x := (iAV (((ix l v10).Center).X))) rfl ag3 ts3 (.tmp rfl) (.inr ⟨rfl, rfl⟩)) rfl (lt_b rfl) ?_
          refine GoT.q rfl (QEx.cal0 (r := (iAV r21)) [(iAV (((ix l v10).Center).X))] rfl Tryz.call121 (.cons (.tmp rfl) .nil) (ref01_Saturate_ok hr21) rfl rfl) rfl (lt_b rfl) ?_
          refine GoT.q rfl (QEx.mulK rfl (.tmp rfl) (.tmp rfl)) rfl (lt_b rfl) ?_
          refine GoT.q rfl (QEx.addK rfl (.tmp rfl) (.tmp rfl)) rfl (lt_b rfl) ?_
          refine GoT.q rfl (QEx.eq (QEx.assign rfl (.tmp rfl)) (congrArg iAV hx22)) rfl (lt_b rfl) ?_
          refine GoT.nil ?_
          refine chk_e h fun c23 h => ?_
          refine let_e h fun r24 hr24 h => ?_
          refine let_e h fun x25 hx25 h => ?_
          refine Wp.region ?_
          refine GoT.q rfl (QEx.move rfl (.tmp rfl)) rfl (lt_b rfl) ?_
          refine GoT.q rfl (QEx.move rfl (.tmp rfl)) rfl (lt_b rfl) ?_
          refine GoT.q rfl (QEx.move rfl (.tmp rfl)) rfl (lt_b rfl) ?_
          refine GoT.q rfl (QEx.move rfl (.tmp rfl)) rfl (lt_b rfl) ?_
          refine GoT.q rfl (QEx.as (.cptr (MassData.cells (ix l v10))) (QEx.idxL (E := MassData.av) rfl et95 (.tmp rfl) (.tmp rfl) c23)) rfl (lt_b rfl) ?_
          refine GoT.q rfl (QEx.fldC (Vec.cells ((ix l v10).Center)) rfl uT49 rfl ts24 rfl (.tmp rfl) rfl) rfl (lt_b rfl) ?_
          refine GoT.q rfl (QEx.fldC [(iAV (((ix l v10).Center).Y))] rfl uT24 rfl ts3 rfl (.tmp rfl) rfl) rfl (lt_b rfl) ?_
          refine GoT.q rfl (QEx.ldC (x := (iAV (((ix l v10).Center).Y))) rfl ag3 ts3 (.tmp rfl) (.inr ⟨rfl, rfl⟩)) rfl (lt_b rfl) ?_
          refine GoT.q rfl (QEx.cal0 (r := (iAV r24)) [(iAV (((ix l v10).Center).Y))] rfl Tryz.call121 (.cons (.tmp rfl) .nil) (ref01_Saturate_ok hr24) rfl rfl) rfl (lt_b rfl) ?_
          refine GoT.q rfl (QEx.mulK rfl (.tmp rfl) (.tmp rfl)) rfl (lt_b rfl) ?_
          refine GoT.q rfl (QEx.addK rfl (.tmp rfl) (.tmp rfl)) rfl (lt_b rfl) ?_
          refine GoT.q rfl (QEx.eq (QEx.assign rfl (.tmp rfl)) (congrArg iAV hx25)) rfl (lt_b rfl) ?_
          refine GoT.nil ?_
          refine let_e h fun x26 hx26 h => ?_
          refine Wp.region ?_
          refine GoT.q rfl (QEx.move rfl (.tmp rfl)) rfl (lt_b rfl) ?_
          refine GoT.q rfl (QEx.addK rfl (.tmp rfl) .con) rfl (lt_b rfl) ?_
          refine GoT.q rfl (QEx.eq (QEx.assign rfl (.tmp rfl)) (congrArg iAV hx26)) rfl (lt_b rfl) ?_
          refine GoT.nil ?_
          exact Round6.mk x19 x22 x25 x26 v11 x18 [] [] h (LS.to.mk (.b rfl rfl (.r rfl rfl (.r rfl rfl (.b rfl rfl (.b rfl rfl (.b rfl rfl (.b rfl rfl .n))))))) (.b rfl rfl rfl (.b rfl rfl rfl .n)) rfl)
      · refine Wp.exit ?_
        exact Joined5.mk v7 v8 v9 v11 v12 [] [] h (LS.to.mk (.b rfl rfl (.r rfl rfl (.r rfl rfl (.b rfl rfl (.b rfl rfl (.b rfl rfl .n)))))) (.b rfl rfl rfl (.b rfl rfl rfl .n)) rfl)
end GoForm
