/- The program's functions compute their plain forms: printed by gen2.py. No conditions. -/
import Derived.Test.YtblkmlpjhpgkjaaGreatF23XW
set_option linter.all false
set_option maxRecDepth 100000
open Go Go.Cx Go.Proofs Go.RowKit
namespace GoForm
theorem vec2_Cross_ok {a : Vec} {b : Vec} {r : Int} (h : vec2_Cross a b = some r) : FnR Tryz.prog 63 [(Vec.av a), (Vec.av b)] (iAV r) := by
  refine FnR.intro' (fn := Tryz.f63) (N := 21) Tryz.func63 rfl rfl (Nat.le_of_ble_eq_true rfl) [2, 3] ?_
  refine Wp.seq ?_
  refine Wp.region ?_
  refine GoT.a rfl (AEx.bx (Z := (Vec.cells a)) rfl (.tmp rfl) rfl rfl rfl rfl) rfl (lt_b rfl) ?_
  refine GoT.a rfl (AEx.bx (Z := (Vec.cells b)) rfl (.tmp rfl) rfl rfl rfl rfl) rfl (lt_b rfl) ?_
  refine GoT.q rfl (QEx.as (iAV 0) (QEx.assign rfl .con)) rfl (lt_b rfl) ?_
  refine GoT.nil ?_
  refine let_e h fun r1 hr1 h => ?_
  refine let_e h fun r2 hr2 h => ?_
  refine let_e h fun x3 hx3 h => ?_
  refine let_e h fun x4 hx4 h => ?_
  refine Wp.seq ?_
  refine Wp.drawn2 (n0 := 6) [] mixed ?_
  refine GoD.qr rfl rfl (QEx.ldP (Vec.cells a) (Vec.av a) rfl ag24 ts24 (.tmp rfl) (le_b rfl) rfl) rfl (lt_b rfl) ?_
  refine GoD.q rfl (QEx.cal0 (r := (Vec.av r1)) [(Vec.av a)] rfl Tryz.call119 (.cons (.tmp rfl) .nil) (vec2_saturate_ok hr1) rfl rfl) rfl (lt_b rfl) ?_
  refine GoD.qr rfl rfl (QEx.ldP (Vec.cells b) (Vec.av b) rfl ag24 ts24 (.tmp rfl) (le_b rfl) rfl) rfl (lt_b rfl) ?_
  refine GoD.q rfl (QEx.cal0 (r := (Vec.av r2)) [(Vec.av b)] rfl Tryz.call119 (.cons (.tmp rfl) .nil) (vec2_saturate_ok hr2) rfl rfl) rfl (lt_b rfl) ?_
  refine GoD.s rfl (Z := (Vec.cells x3)) rfl rfl ts24 (.tmp rfl) rfl (.tmp rfl) rfl rfl (le_b rfl) (congrArg (fun (x : Vec) => (Vec.cells x)) hx3) ?_
  refine GoD.s rfl (Z := (Vec.cells x4)) rfl rfl ts24 (.tmp rfl) rfl (.tmp rfl) rfl rfl (le_b rfl) (congrArg (fun (x : Vec) => (Vec.cells x)) hx4) ?_
  refine GoD.nil ⟨by kernel_rfl, by kernel_rfl, by kernel_rfl, by kernel_rfl, by kernel_rfl, ?_⟩
  refine GoT.nil ?_
  refine bind_e h fun r5 hr5 h => ?_
  refine Wp.seq ?_
  refine Wp.region ?_
  refine GoT.q rfl (QEx.fldP 0 rfl uT24 rfl ts3 rfl (.tmp rfl) rfl) rfl (lt_b rfl) ?_
  refine GoT.qr rfl rfl (QEx.ldP1 (Vec.cells x3) (iAV x3.X) rfl ag3 (.tmp rfl) rfl) rfl (lt_b rfl) ?_
  refine GoT.q rfl (QEx.fldP 1 rfl uT24 rfl ts3 rfl (.tmp rfl) rfl) rfl (lt_b rfl) ?_
  refine GoT.qr rfl rfl (QEx.ldP1 (Vec.cells x4) (iAV x4.Y) rfl ag3 (.tmp rfl) rfl) rfl (lt_b rfl) ?_
  refine GoT.q rfl (QEx.mulK rfl (.tmp rfl) (.tmp rfl)) rfl (lt_b rfl) ?_
  refine GoT.q rfl (QEx.fldP 1 rfl uT24 rfl ts3 rfl (.tmp rfl) rfl) rfl (lt_b rfl) ?_
  refine GoT.qr rfl rfl (QEx.ldP1 (Vec.cells x3) (iAV x3.Y) rfl ag3 (.tmp rfl) rfl) rfl (lt_b rfl) ?_
  refine GoT.q rfl (QEx.fldP 0 rfl uT24 rfl ts3 rfl (.tmp rfl) rfl) rfl (lt_b rfl) ?_
  refine GoT.qr rfl rfl (QEx.ldP1 (Vec.cells x4) (iAV x4.X) rfl ag3 (.tmp rfl) rfl) rfl (lt_b rfl) ?_
  refine GoT.q rfl (QEx.mulK rfl (.tmp rfl) (.tmp rfl)) rfl (lt_b rfl) ?_
  refine GoT.q rfl (QEx.subK rfl (.tmp rfl) (.tmp rfl)) rfl (lt_b rfl) ?_
  refine GoT.q rfl (QEx.cal0 (r := (iAV r5)) [(iAV (w64 ((w64 (x3.X * x4.Y)) - (w64 (x3.Y * x4.X)))))] rfl Tryz.call120 (.cons (.tmp rfl) .nil) (vec2_product_ok hr5) rfl rfl) rfl (lt_b rfl) ?_
  refine GoT.q rfl (QEx.assign rfl (.tmp rfl)) rfl (lt_b rfl) ?_
  refine GoT.nil ?_
  refine Wp.ret ?_
  cases h
  exact LeafQ.ret [] (by decide) (.cons (.tmp rfl) .nil) rfl
theorem vec2_Dot_ok {a : Vec} {b : Vec} {r : Int} (h : vec2_Dot a b = some r) : FnR Tryz.prog 144 [(Vec.av a), (Vec.av b)] (iAV r) := by
  refine FnR.intro' (fn := Tryz.f144) (N := 21) Tryz.func144 rfl rfl (Nat.le_of_ble_eq_true rfl) [2, 3] ?_
  refine Wp.seq ?_
  refine Wp.region ?_
  refine GoT.a rfl (AEx.bx (Z := (Vec.cells a)) rfl (.tmp rfl) rfl rfl rfl rfl) rfl (lt_b rfl) ?_
  refine GoT.a rfl (AEx.bx (Z := (Vec.cells b)) rfl (.tmp rfl) rfl rfl rfl rfl) rfl (lt_b rfl) ?_
  refine GoT.q rfl (QEx.as (iAV 0) (QEx.assign rfl .con)) rfl (lt_b rfl) ?_
  refine GoT.nil ?_
  refine let_e h fun r1 hr1 h => ?_
  refine let_e h fun r2 hr2 h => ?_
  refine let_e h fun x3 hx3 h => ?_
  refine let_e h fun x4 hx4 h => ?_
  refine Wp.seq ?_
  refine Wp.drawn2 (n0 := 6) [] mixed ?_
  refine GoD.qr rfl rfl (QEx.ldP (Vec.cells a) (Vec.av a) rfl ag24 ts24 (.tmp rfl) (le_b rfl) rfl) rfl (lt_b rfl) ?_
  refine GoD.q rfl (QEx.cal0 (r := (Vec.av r1)) [(Vec.av a)] rfl Tryz.call119 (.cons (.tmp rfl) .nil) (vec2_saturate_ok hr1) rfl rfl) rfl (lt_b rfl) ?_
  refine GoD.qr rfl rfl (QEx.ldP (Vec.cells b) (Vec.av b) rfl ag24 ts24 (.tmp rfl) (le_b rfl) rfl) rfl (lt_b rfl) ?_
  refine GoD.q rfl (QEx.cal0 (r := (Vec.av r2)) [(Vec.av b)] rfl Tryz.call119 (.cons (.tmp rfl) .nil) (vec2_saturate_ok hr2) rfl rfl) rfl (lt_b rfl) ?_
  refine GoD.s rfl (Z := (Vec.cells x3)) rfl rfl ts24 (.tmp rfl) rfl (.tmp rfl) rfl rfl (le_b rfl) (congrArg (fun (x : Vec) => (Vec.cells x)) hx3) ?_
  refine GoD.s rfl (Z := (Vec.cells x4)) rfl rfl ts24 (.tmp rfl) rfl (.tmp rfl) rfl rfl (le_b rfl) (congrArg (fun (x : Vec) => (Vec.cells x)) hx4) ?_
  refine GoD.nil ⟨by kernel_rfl, by kernel_rfl, by kernel_rfl, by kernel_rfl, by kernel_rfl, ?_⟩
  refine GoT.nil ?_
  refine bind_e h fun r5 hr5 h => ?_
  refine Wp.seq ?_
  refine Wp.region ?_
  refine GoT.q rfl (QEx.fldP 0 rfl uT24 rfl ts3 rfl (.tmp rfl) rfl) rfl (lt_b rfl) ?_
  refine GoT.qr rfl rfl (QEx.ldP1 (Vec.cells x3) (iAV x3.X) rfl ag3 (.tmp rfl) rfl) rfl (lt_b rfl) ?_
  refine GoT.q rfl (QEx.fldP 0 rfl uT24 rfl ts3 rfl (.tmp rfl) rfl) rfl (lt_b rfl) ?_
  refine GoT.qr rfl rfl (QEx.ldP1 (Vec.cells x4) (iAV x4.X) rfl ag3 (.tmp rfl) rfl) rfl (lt_b rfl) ?_
  refine GoT.q rfl (QEx.mulK rfl (.tmp rfl) (.tmp rfl)) rfl (lt_b rfl) ?_
  refine GoT.q rfl (QEx.fldP 1 rfl uT24 rfl ts3 rfl (.tmp rfl) rfl) rfl (lt_b rfl) ?_
  refine GoT.qr rfl rfl (QEx.ldP1 (Vec.cells x3) (iAV x3.Y) rfl ag3 (.tmp rfl) rfl) rfl (lt_b rfl) ?_
  refine GoT.q rfl (QEx.fldP 1 rfl uT24 rfl ts3 rfl (.tmp rfl) rfl) rfl (lt_b rfl) ?_
  refine GoT.qr rfl rfl (QEx.ldP1 (Vec.cells x4) (iAV x4.Y) rfl ag3 (.tmp rfl) rfl) rfl (lt_b rfl) ?_
  refine GoT.q rfl (QEx.mulK rfl (.tmp rfl) (.tmp rfl)) rfl (lt_b rfl) ?_
  refine GoT.q rfl (QEx.addK rfl (.tmp rfl) (.tmp rfl)) rfl (lt_b rfl) ?_
  refine GoT.q rfl (QEx.cal0 (r := (iAV r5)) [(iAV (w64 ((w64 (x3.X * x4.X)) + (w64 (x3.Y * x4.Y)))))] rfl Tryz.call120 (.cons (.tmp rfl) .nil) (vec2_product_ok hr5) rfl rfl) rfl (lt_b rfl) ?_
  refine GoT.q rfl (QEx.assign rfl (.tmp rfl)) rfl (lt_b rfl) ?_
  refine GoT.nil ?_
  refine Wp.ret ?_
  cases h
  exact LeafQ.ret [] (by decide) (.cons (.tmp rfl) .nil) rfl
theorem massdata_ofPolygon_ok {s : Shape} {density : Int} {r : MassData} (h : massdata_ofPolygon s density = some r) : FnR Tryz.prog 141 [(Shape.av s), (iAV density)] (MassData.av r) := by
  refine FnR.intro' (fn := Tryz.f141) (N := 79) Tryz.func141 rfl rfl (Nat.le_of_ble_eq_true rfl) [2, 4, 6, 9, 11, 12] ?_
  refine Wp.seq ?_
  refine Wp.region ?_
  refine GoT.a rfl (AEx.bx (Z := (Shape.cells s)) rfl (.tmp rfl) rfl rfl rfl rfl) rfl (lt_b rfl) ?_
  refine GoT.a rfl (AEx.alZ rfl zt49 rfl rfl) rfl (lt_b rfl) ?_
  refine GoT.nil ?_
  refine bind_e h fun r1 hr1 h => ?_
  refine bind_e h fun r2 hr2 h => ?_
  refine bind_e h fun r3 hr3 h => ?_
  refine let_e h fun x4 hx4 h => ?_
  refine Wp.seq ?_
  refine Wp.drawn2 (n0 := 11) [9, 11, 12] mixed ?_
  refine GoD.q rfl (QEx.fldP 2 rfl uT33 rfl ts31 rfl (.tmp rfl) rfl) rfl (lt_b rfl) ?_
  refine GoD.qr rfl rfl (QEx.ldP1 (Shape.cells s) ((slAV 2 Vec.av) s.Vertices) rfl ag31 (.tmp rfl) rfl) rfl (lt_b rfl) ?_
  refine GoD.q rfl (QEx.cal0 (r := (iAV r1)) [((slAV 2 Vec.av) s.Vertices)] rfl Tryz.call85 (.cons (.tmp rfl) .nil) (polygon_Area_ok hr1) rfl rfl) rfl (lt_b rfl) ?_
  refine GoD.q rfl (QEx.move rfl (.tmp rfl)) rfl (lt_b rfl) ?_
  refine GoD.q rfl (QEx.cal0 (r := (iAV r2)) [(iAV r1), (iAV density)] rfl Tryz.call62 (.cons (.tmp rfl) (.cons (.tmp rfl) .nil)) (fixed_Mul_ok hr2) rfl rfl) rfl (lt_b rfl) ?_
  refine GoD.q rfl (QEx.fldP 2 rfl uT33 rfl ts31 rfl (.tmp rfl) rfl) rfl (lt_b rfl) ?_
  refine GoD.qr rfl rfl (QEx.ldP1 (Shape.cells s) ((slAV 2 Vec.av) s.Vertices) rfl ag31 (.tmp rfl) rfl) rfl (lt_b rfl) ?_
  refine GoD.q rfl (QEx.cal0 (r := (Vec.av r3)) [((slAV 2 Vec.av) s.Vertices)] rfl Tryz.call163 (.cons (.tmp rfl) .nil) (polygon_Centroid_ok hr3) rfl rfl) rfl (lt_b rfl) ?_
  refine GoD.al rfl rfl zt24 rfl (lt_b rfl) ?_
  refine GoD.q rfl (QEx.assign rfl (.tmp rfl)) rfl (lt_b rfl) ?_
  refine GoD.s rfl (Z := (Vec.cells x4)) rfl rfl ts24 (.tmp rfl) rfl (.tmp rfl) rfl rfl (le_b rfl) (congrArg (fun (x : Vec) => (Vec.cells x)) hx4) ?_
  refine GoD.nil ⟨by kernel_rfl, by kernel_rfl, by kernel_rfl, by kernel_rfl, by kernel_rfl, ?_⟩
  refine GoT.nil ?_
  refine Wp.seq ?_
  refine Wp.region ?_
  refine GoT.q rfl (QEx.as (iAV 0) (QEx.assign rfl .con)) rfl (lt_b rfl) ?_
  refine GoT.q rfl (QEx.as (iAV 0) (QEx.assign rfl .con)) rfl (lt_b rfl) ?_
  refine GoT.nil ?_
  refine chk_e h fun c5 h => ?_
  refine let_e h fun r6 hr6 h => ?_
  refine let_e h fun x7 hx7 h => ?_
  refine Wp.seq ?_
  refine Wp.drawn2 (n0 := 12) [11, 12] mixed ?_
  refine GoD.q rfl (QEx.fldP 2 rfl uT33 rfl ts31 rfl (.tmp rfl) rfl) rfl (lt_b rfl) ?_
  refine GoD.qr rfl rfl (QEx.ldP1 (Shape.cells s) ((slAV 2 Vec.av) s.Vertices) rfl ag31 (.tmp rfl) rfl) rfl (lt_b rfl) ?_
  refine GoD.q rfl (QEx.fldP 2 rfl uT33 rfl ts31 rfl (.tmp rfl) rfl) rfl (lt_b rfl) ?_
  refine GoD.qr rfl rfl (QEx.ldP1 (Shape.cells s) ((slAV 2 Vec.av) s.Vertices) rfl ag31 (.tmp rfl) rfl) rfl (lt_b rfl) ?_
  refine GoD.q rfl (QEx.lenL rfl ⟨_, uT31⟩ (.tmp rfl)) rfl (lt_b rfl) ?_
  refine GoD.q rfl (QEx.subK rfl (.tmp rfl) .con) rfl (lt_b rfl) ?_
  refine GoD.q rfl (QEx.as (.cptr (Vec.cells (ix s.Vertices (w64 (((s.Vertices).length : Int) - 1))))) (QEx.idxL (E := Vec.av) rfl et31 (.tmp rfl) (.tmp rfl) c5)) rfl (lt_b rfl) ?_
  refine GoD.q rfl (QEx.ldC (x := (Vec.av (ix s.Vertices (w64 (((s.Vertices).length : Int) - 1))))) rfl ag24 ts24 (.tmp rfl) (.inl ⟨rfl, rfl, rfl⟩)) rfl (lt_b rfl) ?_
  refine GoD.qr rfl rfl (QEx.ldP (Vec.cells x4) (Vec.av x4) rfl ag24 ts24 (.tmp rfl) (le_b rfl) rfl) rfl (lt_b rfl) ?_
  refine GoD.q rfl (QEx.cal0 (r := (Vec.av r6)) [(Vec.av (ix s.Vertices (w64 (((s.Vertices).length : Int) - 1)))), (Vec.av x4)] rfl Tryz.call51 (.cons (.tmp rfl) (.cons (.tmp rfl) .nil)) (vec2_Sub_ok hr6) rfl rfl) rfl (lt_b rfl) ?_
  refine GoD.al rfl rfl zt24 rfl (lt_b rfl) ?_
  refine GoD.s rfl (Z := (Vec.cells x7)) rfl rfl ts24 (.tmp rfl) rfl (.tmp rfl) rfl rfl (le_b rfl) (congrArg (fun (x : Vec) => (Vec.cells x)) hx7) ?_
  refine GoD.nil ⟨by kernel_rfl, by kernel_rfl, by kernel_rfl, by kernel_rfl, by kernel_rfl, ?_⟩
  refine GoT.nil ?_
  refine Wp.join2 (fun v8 v9 => ⟨[(4, (.ptr 4 0)), (5, (iAV r2)), (6, (.ptr 6 0)), (7, (iAV v8)), (8, (iAV v9))], [(4, .cells (MassData.cells MassData.zero)), (6, .cells (Vec.cells x4))], [2, 9, 11, 12]⟩) (fun v8 v9 => (massdata_ofPolygon_j2 r2 x4) v8 v9 = some r) ?_ ?_
  · intro v8 v9 h
    refine Wp.seq ?_
    refine Wp.seq ?_
    refine Wp.region ?_
    refine GoT.q rfl (QEx.move rfl (.tmp rfl)) rfl (lt_b rfl) ?_
    refine GoT.q rfl (QEx.lssK rfl (.tmp rfl) .con) rfl (lt_b rfl) ?_
    refine GoT.nil ?_
    refine Wp.condS h rfl (fun h => ?_) (fun h => ?_)
    · refine let_e h fun x26 hx26 h => ?_
      refine Wp.seq ?_
      refine Wp.region ?_
      refine GoT.q rfl (QEx.move rfl (.tmp rfl)) rfl (lt_b rfl) ?_
      refine GoT.qr rfl rfl (QEx.ldP (Vec.cells x4) (Vec.av x4) rfl ag24 ts24 (.tmp rfl) (le_b rfl) rfl) rfl (lt_b rfl) ?_
      refine GoT.q rfl (QEx.as (MassData.av (⟨r2, x4, 0⟩ : MassData)) (QEx.buildZ rfl uT49 zt49 (by kernel_rfl) (.cons rfl (.tmp rfl) rfl rfl (le_b rfl) (.cons rfl (.tmp rfl) rfl rfl (le_b rfl) .nil)))) rfl (lt_b rfl) ?_
      refine GoT.s rfl (AEx.sto (Z := (MassData.cells x26)) rfl rfl ts49 (.tmp rfl) rfl (.tmp rfl) rfl rfl (le_b rfl) (congrArg (fun (x : MassData) => (MassData.cells x)) hx26)) rfl ?_
      refine GoT.nil ?_
      refine Wp.ret ?_
      cases h
      exact LeafQ.ret [] (by decide) (.cons (.agg rfl rfl ag49 ts49) .nil) rfl
    · refine Wp.skip ?_
      refine bind_e h fun r27 hr27 h => ?_
      refine bind_e h fun r28 hr28 h => ?_
      refine bind_e h fun r29 hr29 h => ?_
      refine let_e h fun x30 hx30 h => ?_
      refine Wp.seq ?_
      refine Wp.drawn2 (n0 := 10) [2, 9, 11, 12] mixed ?_
      refine GoD.q rfl (QEx.move rfl (.tmp rfl)) rfl (lt_b rfl) ?_
      refine GoD.qr rfl rfl (QEx.ldP (Vec.cells x4) (Vec.av x4) rfl ag24 ts24 (.tmp rfl) (le_b rfl) rfl) rfl (lt_b rfl) ?_
      refine GoD.q rfl (QEx.move rfl (.tmp rfl)) rfl (lt_b rfl) ?_
      refine GoD.q rfl (QEx.move rfl (.tmp rfl)) rfl (lt_b rfl) ?_
      refine GoD.q rfl (QEx.move rfl (.tmp rfl)) rfl (lt_b rfl) ?_
      refine GoD.q rfl (QEx.cal0 (r := (iAV r27)) [(iAV v8), (iAV v9)] rfl Tryz.call118 (.cons (.tmp rfl) (.cons (.tmp rfl) .nil)) (fixed_RoundDiv_ok hr27) rfl rfl) rfl (lt_b rfl) ?_
      refine GoD.q rfl (QEx.cal0 (r := (iAV r28)) [(iAV r27), (iAV 6)] rfl Tryz.call118 (.cons (.tmp rfl) (.cons .con .nil)) (fixed_RoundDiv_ok hr28) rfl rfl) rfl (lt_b rfl) ?_
      refine GoD.q rfl (QEx.cal0 (r := (iAV r29)) [(iAV r2), (iAV r28)] rfl Tryz.call62 (.cons (.tmp rfl) (.cons (.tmp rfl) .nil)) (fixed_Mul_ok hr29) rfl rfl) rfl (lt_b rfl) ?_
      refine GoD.q rfl (QEx.as (MassData.av (⟨r2, x4, r29⟩ : MassData)) (QEx.buildZ rfl uT49 zt49 (by kernel_rfl) (.cons rfl (.tmp rfl) rfl rfl (le_b rfl) (.cons rfl (.tmp rfl) rfl rfl (le_b rfl) (.cons rfl (.tmp rfl) rfl rfl (le_b rfl) .nil))))) rfl (lt_b rfl) ?_
      refine GoD.s rfl (Z := (MassData.cells x30)) rfl rfl ts49 (.tmp rfl) rfl (.tmp rfl) rfl rfl (le_b rfl) (congrArg (fun (x : MassData) => (MassData.cells x)) hx30) ?_
      refine GoD.nil ⟨by kernel_rfl, by kernel_rfl, by kernel_rfl, by kernel_rfl, by kernel_rfl, ?_⟩
      refine GoT.nil ?_
      refine Wp.ret ?_
      cases h
      exact LeafQ.ret [] (by decide) (.cons (.agg rfl rfl ag49 ts49) .nil) rfl
  · refine Wp.seq ?_
    refine Wp.region ?_
    refine GoT.q rfl (QEx.fldP 2 rfl uT33 rfl ts31 rfl (.tmp rfl) rfl) rfl (lt_b rfl) ?_
    refine GoT.qr rfl rfl (QEx.ldP1 (Shape.cells s) ((slAV 2 Vec.av) s.Vertices) rfl ag31 (.tmp rfl) rfl) rfl (lt_b rfl) ?_
    refine GoT.q rfl (QEx.lenL rfl ⟨_, uT31⟩ (.tmp rfl)) rfl (lt_b rfl) ?_
    refine GoT.q rfl (QEx.as (iAV 0) (QEx.move rfl .con)) rfl (lt_b rfl) ?_
    refine GoT.nil ?_
    refine Wp.block ?_
    refine Wp.loop4 (fun v10 v11 v12 v13 => ⟨[(4, (.ptr 4 0)), (5, (iAV r2)), (6, (.ptr 6 0)), (7, (iAV v10)), (8, (iAV v11)), (9, (.ptr 9 0)), (33, ((slAV 2 Vec.av) s.Vertices)), (34, (iAV ((s.Vertices).length : Int))), (35, (iAV v12))], [(4, .cells (MassData.cells MassData.zero)), (6, .cells (Vec.cells x4)), (9, .cells (Vec.cells v13))], [2, 11, 12]⟩) (fun n v10 v11 v12 v13 => massdata_ofPolygon_l1 s x4 (massdata_ofPolygon_j2 r2 x4) n v10 v11 v12 v13 = some r) fuel 0 0 0 x7 [2] [] h (LS.to.mk (.r rfl rfl (.b rfl rfl (.r rfl rfl (.b rfl rfl (.b rfl rfl (.r rfl rfl (.b rfl rfl (.b rfl rfl (.b rfl rfl .n))))))))) (.b rfl rfl rfl (.b rfl rfl rfl (.b rfl rfl rfl .n))) rfl) ?_
    rintro (_ | n2) v10 v11 v12 v13 h
    · exact none_e h
    rw [massdata_ofPolygon_l1] at h
    refine Wp.seq ?_
    refine Wp.region ?_
    refine GoT.q rfl (QEx.lssK rfl (.tmp rfl) (.tmp rfl)) rfl (lt_b rfl) ?_
    refine GoT.nil ?_
    refine Wp.seq ?_
    refine Wp.condS h rfl (fun h => ?_) (fun h => ?_)
    · refine Wp.skip ?_
      refine Wp.seq ?_
      refine Wp.block ?_
      refine chk_e h fun c14 h => ?_
      refine let_e h fun x15 hx15 h => ?_
      refine Wp.seq ?_
      refine Wp.region ?_
      refine GoT.q rfl (QEx.as (.cptr (Vec.cells (ix s.Vertices v12))) (QEx.idxL (E := Vec.av) rfl et31 (.tmp rfl) (.tmp rfl) c14)) rfl (lt_b rfl) ?_
      refine GoT.q rfl (QEx.ldC (x := (Vec.av (ix s.Vertices v12))) rfl ag24 ts24 (.tmp rfl) (.inl ⟨rfl, rfl, rfl⟩)) rfl (lt_b rfl) ?_
      refine GoT.a rfl (AEx.alZ rfl zt24 rfl rfl) rfl (lt_b rfl) ?_
      refine GoT.s rfl (AEx.sto (Z := (Vec.cells x15)) rfl rfl ts24 (.tmp rfl) rfl (.tmp rfl) rfl rfl (le_b rfl) (congrArg (fun (x : Vec) => (Vec.cells x)) hx15)) rfl ?_
      refine GoT.nil ?_
      refine let_e h fun r16 hr16 h => ?_
      refine let_e h fun x17 hx17 h => ?_
      refine Wp.seq ?_
      refine Wp.region ?_
      refine GoT.qr rfl rfl (QEx.ldP (Vec.cells x15) (Vec.av x15) rfl ag24 ts24 (.tmp rfl) (le_b rfl) rfl) rfl (lt_b rfl) ?_
      refine GoT.qr rfl rfl (QEx.ldP (Vec.cells x4) (Vec.av x4) rfl ag24 ts24 (.tmp rfl) (le_b rfl) rfl) rfl (lt_b rfl) ?_
      refine GoT.q rfl (QEx.cal0 (r := (Vec.av r16)) [(Vec.av x15), (Vec.av x4)] rfl Tryz.call51 (.cons (.tmp rfl) (.cons (.tmp rfl) .nil)) (vec2_Sub_ok hr16) rfl rfl) rfl (lt_b rfl) ?_
      refine GoT.a rfl (AEx.alZ rfl zt24 rfl rfl) rfl (lt_b rfl) ?_
      refine GoT.s rfl (AEx.sto (Z := (Vec.cells x17)) rfl rfl ts24 (.tmp rfl) rfl (.tmp rfl) rfl rfl (le_b rfl) (congrArg (fun (x : Vec) => (Vec.cells x)) hx17)) rfl ?_
      refine GoT.nil ?_
      refine bind_e h fun r18 hr18 h => ?_
      refine Wp.seq ?_
      refine Wp.region ?_
      refine GoT.qr rfl rfl (QEx.ldP (Vec.cells v13) (Vec.av v13) rfl ag24 ts24 (.tmp rfl) (le_b rfl) rfl) rfl (lt_b rfl) ?_
      refine GoT.qr rfl rfl (QEx.ldP (Vec.cells x17) (Vec.av x17) rfl ag24 ts24 (.tmp rfl) (le_b rfl) rfl) rfl (lt_b rfl) ?_
      refine GoT.q rfl (QEx.cal0 (r := (iAV r18)) [(Vec.av v13), (Vec.av x17)] rfl Tryz.call63 (.cons (.tmp rfl) (.cons (.tmp rfl) .nil)) (vec2_Cross_ok hr18) rfl rfl) rfl (lt_b rfl) ?_
      refine GoT.q rfl (QEx.assign rfl (.tmp rfl)) rfl (lt_b rfl) ?_
      refine GoT.nil ?_
      refine bind_e h fun r19 hr19 h => ?_
      refine bind_e h fun r20 hr20 h => ?_
      refine bind_e h fun r21 hr21 h => ?_
      refine let_e h fun x22 hx22 h => ?_
      refine Wp.seq ?_
      refine Wp.drawn2 (n0 := 16) [2] mixed ?_
      refine GoD.q rfl (QEx.move rfl (.tmp rfl)) rfl (lt_b rfl) ?_
      refine GoD.q rfl (QEx.move rfl (.tmp rfl)) rfl (lt_b rfl) ?_
      refine GoD.qr rfl rfl (QEx.ldP (Vec.cells v13) (Vec.av v13) rfl ag24 ts24 (.tmp rfl) (le_b rfl) rfl) rfl (lt_b rfl) ?_
      refine GoD.qr rfl rfl (QEx.ldP (Vec.cells v13) (Vec.av v13) rfl ag24 ts24 (.tmp rfl) (le_b rfl) rfl) rfl (lt_b rfl) ?_
      refine GoD.q rfl (QEx.cal0 (r := (iAV r19)) [(Vec.av v13), (Vec.av v13)] rfl Tryz.call144 (.cons (.tmp rfl) (.cons (.tmp rfl) .nil)) (vec2_Dot_ok hr19) rfl rfl) rfl (lt_b rfl) ?_
      refine GoD.qr rfl rfl (QEx.ldP (Vec.cells v13) (Vec.av v13) rfl ag24 ts24 (.tmp rfl) (le_b rfl) rfl) rfl (lt_b rfl) ?_
      refine GoD.qr rfl rfl (QEx.ldP (Vec.cells x17) (Vec.av x17) rfl ag24 ts24 (.tmp rfl) (le_b rfl) rfl) rfl (lt_b rfl) ?_
      refine GoD.q rfl (QEx.cal0 (r := (iAV r20)) [(Vec.av v13), (Vec.av x17)] rfl Tryz.call144 (.cons (.tmp rfl) (.cons (.tmp rfl) .nil)) (vec2_Dot_ok hr20) rfl rfl) rfl (lt_b rfl) ?_
      refine GoD.q rfl (QEx.addK rfl (.tmp rfl) (.tmp rfl)) rfl (lt_b rfl) ?_
      refine GoD.qr rfl rfl (QEx.ldP (Vec.cells x17) (Vec.av x17) rfl ag24 ts24 (.tmp rfl) (le_b rfl) rfl) rfl (lt_b rfl) ?_
      refine GoD.qr rfl rfl (QEx.ldP (Vec.cells x17) (Vec.av x17) rfl ag24 ts24 (.tmp rfl) (le_b rfl) rfl) rfl (lt_b rfl) ?_
      refine GoD.q rfl (QEx.cal0 (r := (iAV r21)) [(Vec.av x17), (Vec.av x17)] rfl Tryz.call144 (.cons (.tmp rfl) (.cons (.tmp rfl) .nil)) (vec2_Dot_ok hr21) rfl rfl) rfl (lt_b rfl) ?_
      refine GoD.q rfl (QEx.addK rfl (.tmp rfl) (.tmp rfl)) rfl (lt_b rfl) ?_
      refine GoD.q rfl (QEx.mulK rfl (.tmp rfl) (.tmp rfl)) rfl (lt_b rfl) ?_
      refine GoD.q rfl (QEx.addK rfl (.tmp rfl) (.tmp rfl)) rfl (lt_b rfl) ?_
      refine GoD.q rfl (QEx.eq (QEx.assign rfl (.tmp rfl)) (congrArg iAV hx22)) rfl (lt_b rfl) ?_
      refine GoD.nil ⟨by kernel_rfl, by kernel_rfl, by kernel_rfl, by kernel_rfl, by kernel_rfl, ?_⟩
      refine GoT.nil ?_
      refine let_e h fun x23 hx23 h => ?_
      refine Wp.seq ?_
      refine Wp.region ?_
      refine GoT.q rfl (QEx.move rfl (.tmp rfl)) rfl (lt_b rfl) ?_
      refine GoT.q rfl (QEx.move rfl (.tmp rfl)) rfl (lt_b rfl) ?_
      refine GoT.q rfl (QEx.addK rfl (.tmp rfl) (.tmp rfl)) rfl (lt_b rfl) ?_
      refine GoT.q rfl (QEx.eq (QEx.assign rfl (.tmp rfl)) (congrArg iAV hx23)) rfl (lt_b rfl) ?_
      refine GoT.nil ?_
      refine let_e h fun x24 hx24 h => ?_
      refine Wp.region ?_
      refine GoT.qr rfl rfl (QEx.ldP (Vec.cells x17) (Vec.av x17) rfl ag24 ts24 (.tmp rfl) (le_b rfl) rfl) rfl (lt_b rfl) ?_
      refine GoT.s rfl (AEx.sto (Z := (Vec.cells x24)) rfl rfl ts24 (.tmp rfl) rfl (.tmp rfl) rfl rfl (le_b rfl) (congrArg (fun (x : Vec) => (Vec.cells x)) hx24)) rfl ?_
      refine GoT.nil ?_
      refine let_e h fun x25 hx25 h => ?_
      refine Wp.region ?_
      refine GoT.q rfl (QEx.addK rfl (.tmp rfl) .con) rfl (lt_b rfl) ?_
      refine GoT.q rfl (QEx.eq (QEx.move rfl (.tmp rfl)) (congrArg iAV hx25)) rfl (lt_b rfl) ?_
      refine GoT.nil ?_
      exact Round4.mk x22 x23 x25 x24 [11, 12] [] h (LS.to.mk (.r rfl rfl (.b rfl rfl (.r rfl rfl (.b rfl rfl (.b rfl rfl (.r rfl rfl (.b rfl rfl (.b rfl rfl (.b rfl rfl .n))))))))) (.b rfl rfl rfl (.b rfl rfl rfl (.b rfl rfl rfl .n))) rfl)
    · refine Wp.exit ?_
      exact Joined2.mk v10 v11 [9] [] h (LS.to.mk (.r rfl rfl (.b rfl rfl (.r rfl rfl (.b rfl rfl (.b rfl rfl .n))))) (.b rfl rfl rfl (.b rfl rfl rfl .n)) rfl)
theorem massdata_OfShape_ok {s : Shape} {density : Int} {r : MassData} (h : massdata_OfShape s density = some r) : FnR Tryz.prog 101 [(Shape.av s), (iAV density)] (MassData.av r) := by
  refine FnR.intro' (fn := Tryz.f101) (N := 32) Tryz.func101 rfl rfl (Nat.le_of_ble_eq_true rfl) [2, 4] ?_
  refine Wp.seq ?_
  refine Wp.region ?_
  refine GoT.a rfl (AEx.bx (Z := (Shape.cells s)) rfl (.tmp rfl) rfl rfl rfl rfl) rfl (lt_b rfl) ?_
  refine GoT.a rfl (AEx.alZ rfl zt49 rfl rfl) rfl (lt_b rfl) ?_
  refine GoT.nil ?_
  refine Wp.seq ?_
  refine bind_e h fun r1 hr1 h => ?_
  refine Wp.seq ?_
  refine Wp.region ?_
  refine GoT.qr rfl rfl (QEx.ldP (Shape.cells s) (Shape.av s) rfl ag33 ts33 (.tmp rfl) (le_b rfl) rfl) rfl (lt_b rfl) ?_
  refine GoT.q rfl (QEx.cal0 (r := (iAV r1)) [(Shape.av s)] rfl Tryz.call37 (.cons (.tmp rfl) .nil) (shape_Validate_ok hr1) rfl rfl) rfl (lt_b rfl) ?_
  refine GoT.q rfl (QEx.neqK rfl (.tmp rfl) .con) rfl (lt_b rfl) ?_
  refine GoT.q rfl (QEx.move rfl (.tmp rfl)) rfl (lt_b rfl) ?_
  refine GoT.g rfl rfl rfl (fun hg => QEx.move rfl (.tmp rfl)) rfl (lt_b rfl) ?_
  refine GoT.g rfl rfl rfl (fun hg => QEx.lssK rfl (.opt (.tmp rfl) hg) .con) rfl (lt_b rfl) ?_
  refine GoT.q rfl (QEx.pickK rfl (.tmp rfl) (fun hp => .con) (fun hp => (.opt (.tmp rfl) (beq_f hp)))) rfl (lt_b rfl) ?_
  refine GoT.q rfl (QEx.move rfl (.tmp rfl)) rfl (lt_b rfl) ?_
  refine GoT.g rfl rfl rfl (fun hg => QEx.move rfl (.tmp rfl)) rfl (lt_b rfl) ?_
  refine GoT.g rfl rfl rfl (fun hg => QEx.gtrK rfl (.opt (.tmp rfl) hg) .con) rfl (lt_b rfl) ?_
  refine GoT.q rfl (QEx.pickK rfl (.tmp rfl) (fun hp => .con) (fun hp => (.opt (.tmp rfl) (beq_f hp)))) rfl (lt_b rfl) ?_
  refine GoT.nil ?_
  refine Wp.condS h rfl (fun h => ?_) (fun h => ?_)
  · refine let_e h fun x2 hx2 h => ?_
    refine Wp.seq ?_
    refine Wp.region ?_
    refine GoT.q rfl (QEx.as (MassData.av (⟨0, Vec.zero, 0⟩ : MassData)) (QEx.buildZ rfl uT49 zt49 (by kernel_rfl) .nil)) rfl (lt_b rfl) ?_
    refine GoT.s rfl (AEx.sto (Z := (MassData.cells x2)) rfl rfl ts49 (.tmp rfl) rfl (.tmp rfl) rfl rfl (le_b rfl) (congrArg (fun (x : MassData) => (MassData.cells x)) hx2)) rfl ?_
    refine GoT.nil ?_
    refine Wp.ret ?_
    cases h
    exact LeafQ.ret [] (by decide) (.cons (.agg rfl rfl ag49 ts49) .nil) rfl
  · refine Wp.skip ?_
    refine Wp.seq ?_
    refine Wp.seq ?_
    refine Wp.region ?_
    refine GoT.q rfl (QEx.fldP 0 rfl uT33 rfl ts30 rfl (.tmp rfl) rfl) rfl (lt_b rfl) ?_
    refine GoT.qr rfl rfl (QEx.ldP1 (Shape.cells s) (iAV s.Kind) rfl ag30 (.tmp rfl) rfl) rfl (lt_b rfl) ?_
    refine GoT.nil ?_
    refine Wp.block ?_
    refine let_e h fun x3 hx3 h => ?_
    refine Wp.seq ?_
    refine Wp.region ?_
    refine GoT.q rfl (QEx.eqlK rfl (.tmp rfl) .con) rfl (lt_b rfl) ?_
    refine GoT.q rfl (QEx.eq (QEx.assign rfl (.tmp rfl)) (congrArg boolAV hx3)) rfl (lt_b rfl) ?_
    refine GoT.nil ?_
    refine Wp.condS h rfl (fun h => ?_) (fun h => ?_)
    · refine bind_e h fun r4 hr4 h => ?_
      refine let_e h fun x5 hx5 h => ?_
      refine Wp.seq ?_
      refine Wp.region ?_
      refine GoT.qr rfl rfl (QEx.ldP (Shape.cells s) (Shape.av s) rfl ag33 ts33 (.tmp rfl) (le_b rfl) rfl) rfl (lt_b rfl) ?_
      refine GoT.q rfl (QEx.move rfl (.tmp rfl)) rfl (lt_b rfl) ?_
      refine GoT.q rfl (QEx.cal0 (r := (MassData.av r4)) [(Shape.av s), (iAV density)] rfl Tryz.call139 (.cons (.tmp rfl) (.cons (.tmp rfl) .nil)) (massdata_ofCircle_ok hr4) rfl rfl) rfl (lt_b rfl) ?_
      refine GoT.s rfl (AEx.sto (Z := (MassData.cells x5)) rfl rfl ts49 (.tmp rfl) rfl (.tmp rfl) rfl rfl (le_b rfl) (congrArg (fun (x : MassData) => (MassData.cells x)) hx5)) rfl ?_
      refine GoT.nil ?_
      refine Wp.ret ?_
      cases h
      exact LeafQ.ret [] (by decide) (.cons (.agg rfl rfl ag49 ts49) .nil) rfl
    · refine let_e h fun x6 hx6 h => ?_
      refine Wp.seq ?_
      refine Wp.region ?_
      refine GoT.q rfl (QEx.eqlK rfl (.tmp rfl) .con) rfl (lt_b rfl) ?_
      refine GoT.q rfl (QEx.eq (QEx.assign rfl (.tmp rfl)) (congrArg boolAV hx6)) rfl (lt_b rfl) ?_
      refine GoT.nil ?_
      refine Wp.condS h rfl (fun h => ?_) (fun h => ?_)
      · refine bind_e h fun r7 hr7 h => ?_
        refine let_e h fun x8 hx8 h => ?_
        refine Wp.seq ?_
        refine Wp.region ?_
        refine GoT.qr rfl rfl (QEx.ldP (Shape.cells s) (Shape.av s) rfl ag33 ts33 (.tmp rfl) (le_b rfl) rfl) rfl (lt_b rfl) ?_
        refine GoT.q rfl (QEx.move rfl (.tmp rfl)) rfl (lt_b rfl) ?_
        refine GoT.q rfl (QEx.cal0 (r := (MassData.av r7)) [(Shape.av s), (iAV density)] rfl Tryz.call140 (.cons (.tmp rfl) (.cons (.tmp rfl) .nil)) (massdata_ofCapsule_ok hr7) rfl rfl) rfl (lt_b rfl) ?_
        refine GoT.s rfl (AEx.sto (Z := (MassData.cells x8)) rfl rfl ts49 (.tmp rfl) rfl (.tmp rfl) rfl rfl (le_b rfl) (congrArg (fun (x : MassData) => (MassData.cells x)) hx8)) rfl ?_
        refine GoT.nil ?_
        refine Wp.ret ?_
        cases h
        exact LeafQ.ret [] (by decide) (.cons (.agg rfl rfl ag49 ts49) .nil) rfl
      · refine Wp.skip ?_
        refine bind_e h fun r9 hr9 h => ?_
        refine let_e h fun x10 hx10 h => ?_
        refine Wp.seq ?_
        refine Wp.region ?_
        refine GoT.qr rfl rfl (QEx.ldP (Shape.cells s) (Shape.av s) rfl ag33 ts33 (.tmp rfl) (le_b rfl) rfl) rfl (lt_b rfl) ?_
        refine GoT.q rfl (QEx.move rfl (.tmp rfl)) rfl (lt_b rfl) ?_
        refine GoT.q rfl (QEx.cal0 (r := (MassData.av r9)) [(Shape.av s), (iAV density)] rfl Tryz.call141 (.cons (.tmp rfl) (.cons (.tmp rfl) .nil)) (massdata_ofPolygon_ok hr9) rfl rfl) rfl (lt_b rfl) ?_
        refine GoT.s rfl (AEx.sto (Z := (MassData.cells x10)) rfl rfl ts49 (.tmp rfl) rfl (.tmp rfl) rfl rfl (le_b rfl) (congrArg (fun (x : MassData) => (MassData.cells x)) hx10)) rfl ?_
        refine GoT.nil ?_
        refine Wp.ret ?_
        cases h
        exact LeafQ.ret [] (by decide) (.cons (.agg rfl rfl ag49 ts49) .nil) rfl
theorem slices_IndexFunc_MassData_ok {s : List MassData} {f : MassData → Option Bool} {fid_1 : Nat} {caps_1 : List AV} (cf_1 : CloR Tryz.prog fid_1 caps_1 (fun x : MassData => [(MassData.av x)]) boolAV f) {r : Int} (h : slices_IndexFunc_MassData s f = some r) : FnR Tryz.prog 164 [((slAV 4 MassData.av) s), (.clo fid_1 caps_1)] (iAV r) := by
  refine FnR.intro' (fn := Tryz.f164) (N := 19) Tryz.func164 rfl rfl (Nat.le_of_ble_eq_true rfl) [6, 12] ?_
  refine Wp.seq ?_
  refine Wp.region ?_
  refine GoT.q rfl (QEx.as (iAV 0) (QEx.assign rfl .con)) rfl (lt_b rfl) ?_
  refine GoT.nil ?_
  refine Wp.join0 (⟨[], [], [6, 12]⟩) (slices_IndexFunc_MassData_j2 = some r) ?_ ?_
  · intro h
    refine Wp.seq ?_
    refine Wp.region ?_
    refine GoT.q rfl (QEx.as (iAV (-1)) (QEx.assign rfl .con)) rfl (lt_b rfl) ?_
    refine GoT.nil ?_
    refine Wp.ret ?_
    cases h
    exact LeafQ.ret [] (by decide) (.cons (.tmp rfl) .nil) rfl
  · refine Wp.seq ?_
    refine Wp.region ?_
    refine GoT.q rfl (QEx.move rfl (.tmp rfl)) rfl (lt_b rfl) ?_
    refine GoT.q rfl (QEx.lenL rfl ⟨_, uT95⟩ (.tmp rfl)) rfl (lt_b rfl) ?_
    refine GoT.q rfl (QEx.as (iAV 0) (QEx.move rfl .con)) rfl (lt_b rfl) ?_
    refine GoT.nil ?_
    refine Wp.block ?_
    refine Wp.loop1 (fun v1 => ⟨[(0, ((slAV 4 MassData.av) s)), (1, (.clo fid_1 caps_1)), (7, (iAV ((s).length : Int))), (8, (iAV v1))], [], [6, 12]⟩) (fun n v1 => slices_IndexFunc_MassData_l1 s f slices_IndexFunc_MassData_j2 n v1 = some r) fuel 0 [] [] h (LS.to.mk (.b rfl rfl (.b rfl rfl (.b rfl rfl (.b rfl rfl .n)))) .n rfl) ?_
    rintro (_ | n2) v1 h
    · exact none_e h
    rw [slices_IndexFunc_MassData_l1] at h
    refine Wp.seq ?_
    refine Wp.region ?_
    refine GoT.q rfl (QEx.lssK rfl (.tmp rfl) (.tmp rfl)) rfl (lt_b rfl) ?_
    refine GoT.nil ?_
    refine Wp.seq ?_
    refine Wp.condS h rfl (fun h => ?_) (fun h => ?_)
    · refine Wp.skip ?_
      refine Wp.seq ?_
      refine Wp.block ?_
      refine Wp.seq ?_
      refine Wp.region ?_
      refine GoT.q rfl (QEx.move rfl (.tmp rfl)) rfl (lt_b rfl) ?_
      refine GoT.q rfl (QEx.assign rfl (.tmp rfl)) rfl (lt_b rfl) ?_
      refine GoT.nil ?_
      refine chk_e h fun c2 h => ?_
      refine bind_e h fun r3 hr3 h => ?_
      refine Wp.seq ?_
      refine Wp.region ?_
      refine GoT.q rfl (QEx.move rfl (.tmp rfl)) rfl (lt_b rfl) ?_
      refine GoT.q rfl (QEx.move rfl (.tmp rfl)) rfl (lt_b rfl) ?_
      refine GoT.q rfl (QEx.move rfl (.tmp rfl)) rfl (lt_b rfl) ?_
      refine GoT.q rfl (QEx.as (.cptr (MassData.cells (ix s v1))) (QEx.idxL (E := MassData.av) rfl et95 (.tmp rfl) (.tmp rfl) c2)) rfl (lt_b rfl) ?_
      refine GoT.q rfl (QEx.ldC (x := (MassData.av (ix s v1))) rfl ag49 ts49 (.tmp rfl) (.inl ⟨rfl, rfl, rfl⟩)) rfl (lt_b rfl) ?_
      refine GoT.q rfl (QEx.calC (A := (fun x : MassData => [(MassData.av x)])) (E := boolAV) (g := f) (ix s v1) r3 cf_1 rfl (.tmp rfl) (.cons (.tmp rfl) .nil) rfl hr3 rfl) rfl (lt_b rfl) ?_
      refine GoT.nil ?_
      refine Wp.condS h rfl (fun h => ?_) (fun h => ?_)
      · refine Wp.seq ?_
        refine Wp.region ?_
        refine GoT.q rfl (QEx.move rfl (.tmp rfl)) rfl (lt_b rfl) ?_
        refine GoT.q rfl (QEx.assign rfl (.tmp rfl)) rfl (lt_b rfl) ?_
        refine GoT.nil ?_
        refine Wp.ret ?_
        cases h
        exact LeafQ.ret [] (by decide) (.cons (.tmp rfl) .nil) rfl
      · refine Wp.skip ?_
        refine let_e h fun x4 hx4 h => ?_
        refine Wp.region ?_
        refine GoT.q rfl (QEx.addK rfl (.tmp rfl) .con) rfl (lt_b rfl) ?_
        refine GoT.q rfl (QEx.eq (QEx.move rfl (.tmp rfl)) (congrArg iAV hx4)) rfl (lt_b rfl) ?_
        refine GoT.nil ?_
        exact Round1.mk x4 [] [] h (LS.to.mk (.b rfl rfl (.b rfl rfl (.b rfl rfl (.b rfl rfl .n)))) .n rfl)
    · refine Wp.exit ?_
      exact Joined0.mk [] [] h (LS.to.mk .n .n rfl)
theorem slices_ContainsFunc_MassData_ok {s : List MassData} {f : MassData → Option Bool} {fid_1 : Nat} {caps_1 : List AV} (cf_1 : CloR Tryz.prog fid_1 caps_1 (fun x : MassData => [(MassData.av x)]) boolAV f) {r : Bool} (h : slices_ContainsFunc_MassData s f = some r) : FnR Tryz.prog 142 [((slAV 4 MassData.av) s), (.clo fid_1 caps_1)] (boolAV r) := by
  refine FnR.intro' (fn := Tryz.f142) (N := 9) Tryz.func142 rfl rfl (Nat.le_of_ble_eq_true rfl) [5] ?_
  refine Wp.seq ?_
  refine Wp.region ?_
  refine GoT.q rfl (QEx.as (boolAV false) (QEx.assign rfl .con)) rfl (lt_b rfl) ?_
  refine GoT.nil ?_
  refine bind_e h fun r1 hr1 h => ?_
  refine let_e h fun x2 hx2 h => ?_
  refine Wp.seq ?_
  refine Wp.region ?_
  refine GoT.q rfl (QEx.move rfl (.tmp rfl)) rfl (lt_b rfl) ?_
  refine GoT.q rfl (QEx.move rfl (.tmp rfl)) rfl (lt_b rfl) ?_
  refine GoT.q rfl (QEx.cal0 (r := (iAV r1)) [((slAV 4 MassData.av) s), (.clo fid_1 caps_1)] rfl Tryz.call164 (.cons (.tmp rfl) (.cons (.tmp rfl) .nil)) (slices_IndexFunc_MassData_ok cf_1 hr1) rfl rfl) rfl (lt_b rfl) ?_
  refine GoT.q rfl (QEx.geqK rfl (.tmp rfl) .con) rfl (lt_b rfl) ?_
  refine GoT.q rfl (QEx.eq (QEx.assign rfl (.tmp rfl)) (congrArg boolAV hx2)) rfl (lt_b rfl) ?_
  refine GoT.nil ?_
  refine Wp.ret ?_
  cases h
  exact LeafQ.ret [] (by decide) (.cons (.tmp rfl) .nil) rfl
theorem massdata_Combine_c1_ok {p : MassData} {r : Bool} (h : massdata_Combine_c1 p = r) : FnR Tryz.prog 143 [(MassData.av p)] (boolAV r) := by
  refine FnR.intro' (fn := Tryz.f143) (N := 6) Tryz.func143 rfl rfl (Nat.le_of_ble_eq_true rfl) [1] ?_
  refine Wp.seq ?_
  refine Wp.region ?_
  refine GoT.a rfl (AEx.bx (Z := (MassData.cells p)) rfl (.tmp rfl) rfl rfl rfl rfl) rfl (lt_b rfl) ?_
  refine GoT.q rfl (QEx.as (boolAV false) (QEx.assign rfl .con)) rfl (lt_b rfl) ?_
  refine GoT.nil ?_
  refine let_e h fun x1 hx1 h => ?_
  refine Wp.seq ?_
  refine Wp.region ?_
  refine GoT.q rfl (QEx.fldP 0 rfl uT49 rfl ts3 rfl (.tmp rfl) rfl) rfl (lt_b rfl) ?_
  refine GoT.qr rfl rfl (QEx.ldP1 (MassData.cells p) (iAV p.Mass) rfl ag3 (.tmp rfl) rfl) rfl (lt_b rfl) ?_
  refine GoT.q rfl (QEx.lssK rfl (.tmp rfl) .con) rfl (lt_b rfl) ?_
  refine GoT.q rfl (QEx.eq (QEx.assign rfl (.tmp rfl)) (congrArg boolAV hx1)) rfl (lt_b rfl) ?_
  refine GoT.nil ?_
  refine Wp.ret ?_
  cases h
  exact LeafQ.ret [] (by decide) (.cons (.tmp rfl) .nil) rfl
theorem massdata_Combine_ok {parts : List MassData} {r : MassData} (h : massdata_Combine parts = some r) : FnR Tryz.prog 102 [((slAV 4 MassData.av) parts)] (MassData.av r) := by
  refine FnR.intro' (fn := Tryz.f102) (N := 91) Tryz.func102 rfl rfl (Nat.le_of_ble_eq_true rfl) [2, 3, 8, 11, 12, 13, 17, 21, 65] ?_
  refine Wp.seq ?_
  refine Wp.region ?_
  refine GoT.a rfl (AEx.alZ rfl zt49 rfl rfl) rfl (lt_b rfl) ?_
  refine GoT.nil ?_
  refine Wp.seq ?_
  refine bind_e h fun r1 hr1 h => ?_
  refine Wp.seq ?_
  refine Wp.region ?_
  refine GoT.q rfl (QEx.move rfl (.tmp rfl)) rfl (lt_b rfl) ?_
  refine GoT.q rfl (QEx.lenL rfl ⟨_, uT95⟩ (.tmp rfl)) rfl (lt_b rfl) ?_
  refine GoT.q rfl (QEx.gtrK rfl (.tmp rfl) .con) rfl (lt_b rfl) ?_
  refine GoT.q rfl (QEx.move rfl (.tmp rfl)) rfl (lt_b rfl) ?_
  refine GoT.g rfl rfl rfl (fun hg => QEx.move rfl (.tmp rfl)) rfl (lt_b rfl) ?_
  refine GoT.g rfl rfl rfl (fun hg => QEx.cal0 (r := (boolAV r1)) [((slAV 4 MassData.av) parts), (.clo 143 [])] rfl Tryz.call142 (.cons (.opt (.tmp rfl) hg) (.cons .fn .nil)) (slices_ContainsFunc_MassData_ok ⟨Tryz.call143, fun x r h => (massdata_Combine_c1_ok (Option.some.inj h))⟩ (gcall hr1 hg)) rfl rfl) rfl (lt_b rfl) ?_
  refine GoT.q rfl (QEx.pickK rfl (.tmp rfl) (fun hp => .con) (fun hp => (.opt (.tmp rfl) (beq_f hp)))) rfl (lt_b rfl) ?_
  refine GoT.nil ?_
  refine Wp.condS h rfl (fun h => ?_) (fun h => ?_)
  · refine let_e h fun x2 hx2 h => ?_
    refine Wp.seq ?_
    refine Wp.region ?_
    refine GoT.q rfl (QEx.as (MassData.av (⟨0, Vec.zero, 0⟩ : MassData)) (QEx.buildZ rfl uT49 zt49 (by kernel_rfl) .nil)) rfl (lt_b rfl) ?_
    refine GoT.s rfl (AEx.sto (Z := (MassData.cells x2)) rfl rfl ts49 (.tmp rfl) rfl (.tmp rfl) rfl rfl (le_b rfl) (congrArg (fun (x : MassData) => (MassData.cells x)) hx2)) rfl ?_
    refine GoT.nil ?_
    refine Wp.ret ?_
    cases h
    exact LeafQ.ret [] (by decide) (.cons (.agg rfl rfl ag49 ts49) .nil) rfl
  · refine Wp.skip ?_
    refine Wp.seq ?_
    refine Wp.region ?_
    refine GoT.a rfl (AEx.alZ rfl zt49 rfl rfl) rfl (lt_b rfl) ?_
    refine GoT.nil ?_
    refine Wp.seq ?_
    refine Wp.region ?_
    refine GoT.q rfl (QEx.as (iAV 0) (QEx.assign rfl .con)) rfl (lt_b rfl) ?_
    refine GoT.q rfl (QEx.as (iAV 0) (QEx.assign rfl .con)) rfl (lt_b rfl) ?_
    refine GoT.q rfl (QEx.as (iAV 0) (QEx.assign rfl .con)) rfl (lt_b rfl) ?_
    refine GoT.nil ?_
    refine Wp.join4 (fun v3 v4 v5 v6 => ⟨[(0, ((slAV 4 MassData.av) parts)), (2, (.ptr 2 0)), (3, (.ptr 3 0)), (4, (iAV v3)), (5, (iAV v4)), (6, (iAV v5))], [(2, .cells (MassData.cells MassData.zero)), (3, .cells (MassData.cells v6))], [8, 11, 12, 13, 17, 21, 65]⟩) (fun v3 v4 v5 v6 => (massdata_Combine_j5 parts) v3 v4 v5 v6 = some r) ?_ ?_
    · intro v3 v4 v5 v6 h
      refine Wp.join1 (fun v23 => ⟨[(0, ((slAV 4 MassData.av) parts)), (2, (.ptr 2 0)), (3, (.ptr 3 0))], [(2, .cells (MassData.cells MassData.zero)), (3, .cells (MassData.cells v23))], [8, 11, 12, 13, 17, 21, 65]⟩) (fun v23 => (massdata_Combine_j4 parts) v23 = some r) ?_ ?_
      · intro v23 h
        refine Wp.join1 (fun v27 => ⟨[(2, (.ptr 2 0)), (3, (.ptr 3 0))], [(2, .cells (MassData.cells MassData.zero)), (3, .cells (MassData.cells v27))], [8, 11, 12, 13, 17, 21, 65]⟩) (fun v27 => massdata_Combine_j3 v27 = some r) ?_ ?_
        · intro v27 h
          refine let_e h fun x40 hx40 h => ?_
          refine Wp.seq ?_
          refine Wp.region ?_
          refine GoT.qr rfl rfl (QEx.ldP (MassData.cells v27) (MassData.av v27) rfl ag49 ts49 (.tmp rfl) (le_b rfl) rfl) rfl (lt_b rfl) ?_
          refine GoT.s rfl (AEx.sto (Z := (MassData.cells x40)) rfl rfl ts49 (.tmp rfl) rfl (.tmp rfl) rfl rfl (le_b rfl) (congrArg (fun (x : MassData) => (MassData.cells x)) hx40)) rfl ?_
          refine GoT.nil ?_
          refine Wp.ret ?_
          cases h
          exact LeafQ.ret [] (by decide) (.cons (.agg rfl rfl ag49 ts49) .nil) rfl
        · refine Wp.seq ?_
          refine Wp.region ?_
          refine GoT.q rfl (QEx.move rfl (.tmp rfl)) rfl (lt_b rfl) ?_
          refine GoT.q rfl (QEx.lenL rfl ⟨_, uT95⟩ (.tmp rfl)) rfl (lt_b rfl) ?_
          refine GoT.q rfl (QEx.as (iAV 0) (QEx.move rfl .con)) rfl (lt_b rfl) ?_
          refine GoT.nil ?_
          refine Wp.block ?_
          refine Wp.loop2 (fun v28 v29 => ⟨[(2, (.ptr 2 0)), (3, (.ptr 3 0)), (65, ((slAV 4 MassData.av) parts)), (66, (iAV ((parts).length : Int))), (67, (iAV v28))], [(2, .cells (MassData.cells MassData.zero)), (3, .cells (MassData.cells v29))], [8, 11, 12, 13, 17, 21, 65]⟩) (fun n v28 v29 => massdata_Combine_l2 parts massdata_Combine_j3 n v28 v29 = some r) fuel 0 v23 [] [] h (LS.to.mk (.r rfl rfl (.r rfl rfl (.b rfl rfl (.b rfl rfl (.b rfl rfl .n))))) (.b rfl rfl rfl (.b rfl rfl rfl .n)) rfl) ?_
          rintro (_ | n5) v28 v29 h
          · exact none_e h
          rw [massdata_Combine_l2] at h
          refine Wp.seq ?_
          refine Wp.region ?_
          refine GoT.q rfl (QEx.lssK rfl (.tmp rfl) (.tmp rfl)) rfl (lt_b rfl) ?_
          refine GoT.nil ?_
          refine Wp.seq ?_
          refine Wp.condS h rfl (fun h => ?_) (fun h => ?_)
          · refine Wp.skip ?_
            refine Wp.seq ?_
            refine Wp.block ?_
            refine chk_e h fun c30 h => ?_
            refine let_e h fun x31 hx31 h => ?_
            refine Wp.seq ?_
            refine Wp.region ?_
            refine GoT.q rfl (QEx.as (.cptr (MassData.cells (ix parts v28))) (QEx.idxL (E := MassData.av) rfl et95 (.tmp rfl) (.tmp rfl) c30)) rfl (lt_b rfl) ?_
            refine GoT.q rfl (QEx.ldC (x := (MassData.av (ix parts v28))) rfl ag49 ts49 (.tmp rfl) (.inl ⟨rfl, rfl, rfl⟩)) rfl (lt_b rfl) ?_
            refine GoT.a rfl (AEx.alZ rfl zt49 rfl rfl) rfl (lt_b rfl) ?_
            refine GoT.s rfl (AEx.sto (Z := (MassData.cells x31)) rfl rfl ts49 (.tmp rfl) rfl (.tmp rfl) rfl rfl (le_b rfl) (congrArg (fun (x : MassData) => (MassData.cells x)) hx31)) rfl ?_
            refine GoT.nil ?_
            refine let_e h fun r32 hr32 h => ?_
            refine let_e h fun x33 hx33 h => ?_
            refine Wp.seq ?_
            refine Wp.region ?_
            refine GoT.q rfl (QEx.fldP 1 rfl uT49 rfl ts24 rfl (.tmp rfl) rfl) rfl (lt_b rfl) ?_
            refine GoT.qr rfl rfl (QEx.ldP (MassData.cells x31) (Vec.av x31.Center) rfl ag24 ts24 (.tmp rfl) (le_b rfl) rfl) rfl (lt_b rfl) ?_
            refine GoT.q rfl (QEx.fldP 1 rfl uT49 rfl ts24 rfl (.tmp rfl) rfl) rfl (lt_b rfl) ?_
            refine GoT.qr rfl rfl (QEx.ldP (MassData.cells v29) (Vec.av v29.Center) rfl ag24 ts24 (.tmp rfl) (le_b rfl) rfl) rfl (lt_b rfl) ?_
            refine GoT.q rfl (QEx.cal0 (r := (Vec.av r32)) [(Vec.av x31.Center), (Vec.av v29.Center)] rfl Tryz.call51 (.cons (.tmp rfl) (.cons (.tmp rfl) .nil)) (vec2_Sub_ok hr32) rfl rfl) rfl (lt_b rfl) ?_
            refine GoT.a rfl (AEx.alZ rfl zt24 rfl rfl) rfl (lt_b rfl) ?_
            refine GoT.s rfl (AEx.sto (Z := (Vec.cells x33)) rfl rfl ts24 (.tmp rfl) rfl (.tmp rfl) rfl rfl (le_b rfl) (congrArg (fun (x : Vec) => (Vec.cells x)) hx33)) rfl ?_
            refine GoT.nil ?_
            refine let_e h fun r34 hr34 h => ?_
            refine bind_e h fun r35 hr35 h => ?_
            refine bind_e h fun r36 hr36 h => ?_
            refine let_e h fun r37 hr37 h => ?_
            refine let_e h fun x38 hx38 h => ?_
            refine Wp.drawn2 (n0 := 14) [8, 13, 17, 21, 65] mixed ?_
            refine GoD.q rfl (QEx.fldP 3 rfl uT49 rfl ts3 rfl (.tmp rfl) rfl) rfl (lt_b rfl) ?_
            refine GoD.qr rfl rfl (QEx.ldP1 (MassData.cells v29) (iAV v29.Inertia) rfl ag3 (.tmp rfl) rfl) rfl (lt_b rfl) ?_
            refine GoD.q rfl (QEx.fldP 3 rfl uT49 rfl ts3 rfl (.tmp rfl) rfl) rfl (lt_b rfl) ?_
            refine GoD.qr rfl rfl (QEx.ldP1 (MassData.cells x31) (iAV x31.Inertia) rfl ag3 (.tmp rfl) rfl) rfl (lt_b rfl) ?_
            refine GoD.q rfl (QEx.cal0 (r := (iAV r34)) [(iAV v29.Inertia), (iAV x31.Inertia)] rfl Tryz.call61 (.cons (.tmp rfl) (.cons (.tmp rfl) .nil)) (fixed_Add_ok hr34) rfl rfl) rfl (lt_b rfl) ?_
            refine GoD.q rfl (QEx.fldP 0 rfl uT49 rfl ts3 rfl (.tmp rfl) rfl) rfl (lt_b rfl) ?_
            refine GoD.qr rfl rfl (QEx.ldP1 (MassData.cells x31) (iAV x31.Mass) rfl ag3 (.tmp rfl) rfl) rfl (lt_b rfl) ?_
            refine GoD.qr rfl rfl (QEx.ldP (Vec.cells x33) (Vec.av x33) rfl ag24 ts24 (.tmp rfl) (le_b rfl) rfl) rfl (lt_b rfl) ?_
            refine GoD.qr rfl rfl (QEx.ldP (Vec.cells x33) (Vec.av x33) rfl ag24 ts24 (.tmp rfl) (le_b rfl) rfl) rfl (lt_b rfl) ?_
            refine GoD.q rfl (QEx.cal0 (r := (iAV r35)) [(Vec.av x33), (Vec.av x33)] rfl Tryz.call144 (.cons (.tmp rfl) (.cons (.tmp rfl) .nil)) (vec2_Dot_ok hr35) rfl rfl) rfl (lt_b rfl) ?_
            refine GoD.q rfl (QEx.cal0 (r := (iAV r36)) [(iAV x31.Mass), (iAV r35)] rfl Tryz.call62 (.cons (.tmp rfl) (.cons (.tmp rfl) .nil)) (fixed_Mul_ok hr36) rfl rfl) rfl (lt_b rfl) ?_
            refine GoD.q rfl (QEx.cal0 (r := (iAV r37)) [(iAV r34), (iAV r36)] rfl Tryz.call61 (.cons (.tmp rfl) (.cons (.tmp rfl) .nil)) (fixed_Add_ok hr37) rfl rfl) rfl (lt_b rfl) ?_
            refine GoD.q rfl (QEx.fldP 3 rfl uT49 rfl ts3 rfl (.tmp rfl) rfl) rfl (lt_b rfl) ?_
            refine GoD.s rfl (Z := (MassData.cells x38)) rfl rfl ts3 (.tmp rfl) rfl (.tmp rfl) rfl rfl (le_b rfl) (congrArg (fun (x : MassData) => (MassData.cells x)) hx38) ?_
            refine GoD.nil ⟨by kernel_rfl, by kernel_rfl, by kernel_rfl, by kernel_rfl, by kernel_rfl, ?_⟩
            refine GoT.nil ?_
            refine let_e h fun x39 hx39 h => ?_
            refine Wp.region ?_
            refine GoT.q rfl (QEx.addK rfl (.tmp rfl) .con) rfl (lt_b rfl) ?_
            refine GoT.q rfl (QEx.eq (QEx.move rfl (.tmp rfl)) (congrArg iAV hx39)) rfl (lt_b rfl) ?_
            refine GoT.nil ?_
            exact Round2.mk x39 x38 [11, 12] [] h (LS.to.mk (.r rfl rfl (.r rfl rfl (.b rfl rfl (.b rfl rfl (.b rfl rfl .n))))) (.b rfl rfl rfl (.b rfl rfl rfl .n)) rfl)
          · refine Wp.exit ?_
            exact Joined1.mk v29 [] [] h (LS.to.mk (.r rfl rfl (.r rfl rfl .n)) (.b rfl rfl rfl (.b rfl rfl rfl .n)) rfl)
      · refine Wp.seq ?_
        refine Wp.region ?_
        refine GoT.q rfl (QEx.move rfl (.tmp rfl)) rfl (lt_b rfl) ?_
        refine GoT.q rfl (QEx.gtrK rfl (.tmp rfl) .con) rfl (lt_b rfl) ?_
        refine GoT.nil ?_
        refine Wp.condS h rfl (fun h => ?_) (fun h => ?_)
        · refine bind_e h fun r24 hr24 h => ?_
          refine bind_e h fun r25 hr25 h => ?_
          refine let_e h fun x26 hx26 h => ?_
          refine Wp.region ?_
          refine GoT.q rfl (QEx.move rfl (.tmp rfl)) rfl (lt_b rfl) ?_
          refine GoT.q rfl (QEx.move rfl (.tmp rfl)) rfl (lt_b rfl) ?_
          refine GoT.q rfl (QEx.cal0 (r := (iAV r24)) [(iAV v4), (iAV v3)] rfl Tryz.call118 (.cons (.tmp rfl) (.cons (.tmp rfl) .nil)) (fixed_RoundDiv_ok hr24) rfl rfl) rfl (lt_b rfl) ?_
          refine GoT.q rfl (QEx.move rfl (.tmp rfl)) rfl (lt_b rfl) ?_
          refine GoT.q rfl (QEx.move rfl (.tmp rfl)) rfl (lt_b rfl) ?_
          refine GoT.q rfl (QEx.cal0 (r := (iAV r25)) [(iAV v5), (iAV v3)] rfl Tryz.call118 (.cons (.tmp rfl) (.cons (.tmp rfl) .nil)) (fixed_RoundDiv_ok hr25) rfl rfl) rfl (lt_b rfl) ?_
          refine GoT.q rfl (QEx.as (Vec.av (⟨r24, r25⟩ : Vec)) (QEx.buildZ rfl uT24 zt24 (by kernel_rfl) (.cons rfl (.tmp rfl) rfl rfl (le_b rfl) (.cons rfl (.tmp rfl) rfl rfl (le_b rfl) .nil)))) rfl (lt_b rfl) ?_
          refine GoT.q rfl (QEx.fldP 1 rfl uT49 rfl ts24 rfl (.tmp rfl) rfl) rfl (lt_b rfl) ?_
          refine GoT.s rfl (AEx.sto (Z := (MassData.cells x26)) rfl rfl ts24 (.tmp rfl) rfl (.tmp rfl) rfl rfl (le_b rfl) (congrArg (fun (x : MassData) => (MassData.cells x)) hx26)) rfl ?_
          refine GoT.nil ?_
          exact Joined1.mk x26 [] [] h (LS.to.mk (.b rfl rfl (.r rfl rfl (.r rfl rfl .n))) (.b rfl rfl rfl (.b rfl rfl rfl .n)) rfl)
        · refine Wp.skip ?_
          exact Joined1.mk v6 [] [] h (LS.to.mk (.b rfl rfl (.r rfl rfl (.r rfl rfl .n))) (.b rfl rfl rfl (.b rfl rfl rfl .n)) rfl)
    · refine Wp.seq ?_
      refine Wp.region ?_
      refine GoT.q rfl (QEx.move rfl (.tmp rfl)) rfl (lt_b rfl) ?_
      refine GoT.q rfl (QEx.lenL rfl ⟨_, uT95⟩ (.tmp rfl)) rfl (lt_b rfl) ?_
      refine GoT.q rfl (QEx.as (iAV 0) (QEx.move rfl .con)) rfl (lt_b rfl) ?_
      refine GoT.nil ?_
      refine Wp.block ?_
      refine Wp.loop5 (fun v7 v8 v9 v10 v11 => ⟨[(0, ((slAV 4 MassData.av) parts)), (2, (.ptr 2 0)), (3, (.ptr 3 0)), (4, (iAV v7)), (5, (iAV v8)), (6, (iAV v9)), (21, ((slAV 4 MassData.av) parts)), (22, (iAV ((parts).length : Int))), (23, (iAV v10))], [(2, .cells (MassData.cells MassData.zero)), (3, .cells (MassData.cells v11))], [8, 11, 12, 13, 17, 21, 65]⟩) (fun n v7 v8 v9 v10 v11 => massdata_Combine_l1 parts (massdata_Combine_j5 parts) n v7 v8 v9 v10 v11 = some r) fuel 0 0 0 0 MassData.zero [] [] h (LS.to.mk (.b rfl rfl (.r rfl rfl (.r rfl rfl (.b rfl rfl (.b rfl rfl (.b rfl rfl (.b rfl rfl (.b rfl rfl (.b rfl rfl .n))))))))) (.b rfl rfl rfl (.b rfl rfl rfl .n)) rfl) ?_
      rintro (_ | n2) v7 v8 v9 v10 v11 h
      · exact none_e h
      rw [massdata_Combine_l1] at h
      refine Wp.seq ?_
      refine Wp.region ?_
      refine GoT.q rfl (QEx.lssK rfl (.tmp rfl) (.tmp rfl)) rfl (lt_b rfl) ?_
      refine GoT.nil ?_
      refine Wp.seq ?_
      refine Wp.condS h rfl (fun h => ?_) (fun h => ?_)
      · refine Wp.skip ?_
        refine Wp.seq ?_
        refine Wp.block ?_
        refine chk_e h fun c12 h => ?_
        refine let_e h fun x13 hx13 h => ?_
        refine Wp.seq ?_
        refine Wp.region ?_
        refine GoT.q rfl (QEx.as (.cptr (MassData.cells (ix parts v10))) (QEx.idxL (E := MassData.av) rfl et95 (.tmp rfl) (.tmp rfl) c12)) rfl (lt_b rfl) ?_
        refine GoT.q rfl (QEx.ldC (x := (MassData.av (ix parts v10))) rfl ag49 ts49 (.tmp rfl) (.inl ⟨rfl, rfl, rfl⟩)) rfl (lt_b rfl) ?_
        refine GoT.a rfl (AEx.alZ rfl zt49 rfl rfl) rfl (lt_b rfl) ?_
        refine GoT.s rfl (AEx.sto (Z := (MassData.cells x13)) rfl rfl ts49 (.tmp rfl) rfl (.tmp rfl) rfl rfl (le_b rfl) (congrArg (fun (x : MassData) => (MassData.cells x)) hx13)) rfl ?_
        refine GoT.nil ?_
        refine let_e h fun r14 hr14 h => ?_
        refine Wp.seq ?_
        refine Wp.region ?_
        refine GoT.q rfl (QEx.fldP 0 rfl uT49 rfl ts3 rfl (.tmp rfl) rfl) rfl (lt_b rfl) ?_
        refine GoT.qr rfl rfl (QEx.ldP1 (MassData.cells x13) (iAV x13.Mass) rfl ag3 (.tmp rfl) rfl) rfl (lt_b rfl) ?_
        refine GoT.q rfl (QEx.cal0 (r := (iAV r14)) [(iAV x13.Mass)] rfl Tryz.call117 (.cons (.tmp rfl) .nil) (fixed_Saturate_ok hr14) rfl rfl) rfl (lt_b rfl) ?_
        refine GoT.q rfl (QEx.assign rfl (.tmp rfl)) rfl (lt_b rfl) ?_
        refine GoT.nil ?_
        refine let_e h fun r15 hr15 h => ?_
        refine let_e h fun x16 hx16 h => ?_
        refine Wp.seq ?_
        refine Wp.region ?_
        refine GoT.q rfl (QEx.fldP 0 rfl uT49 rfl ts3 rfl (.tmp rfl) rfl) rfl (lt_b rfl) ?_
        refine GoT.qr rfl rfl (QEx.ldP1 (MassData.cells v11) (iAV v11.Mass) rfl ag3 (.tmp rfl) rfl) rfl (lt_b rfl) ?_
        refine GoT.q rfl (QEx.move rfl (.tmp rfl)) rfl (lt_b rfl) ?_
        refine GoT.q rfl (QEx.cal0 (r := (iAV r15)) [(iAV v11.Mass), (iAV r14)] rfl Tryz.call61 (.cons (.tmp rfl) (.cons (.tmp rfl) .nil)) (fixed_Add_ok hr15) rfl rfl) rfl (lt_b rfl) ?_
        refine GoT.q rfl (QEx.fldP 0 rfl uT49 rfl ts3 rfl (.tmp rfl) rfl) rfl (lt_b rfl) ?_
        refine GoT.s rfl (AEx.sto (Z := (MassData.cells x16)) rfl rfl ts3 (.tmp rfl) rfl (.tmp rfl) rfl rfl (le_b rfl) (congrArg (fun (x : MassData) => (MassData.cells x)) hx16)) rfl ?_
        refine GoT.nil ?_
        refine let_e h fun r17 hr17 h => ?_
        refine let_e h fun r18 hr18 h => ?_
        refine let_e h fun x19 hx19 h => ?_
        refine let_e h fun x20 hx20 h => ?_
        refine let_e h fun x21 hx21 h => ?_
        refine Wp.drawn2 (n0 := 22) [11, 12, 13, 17, 21, 65] mixed ?_
        refine GoD.q rfl (QEx.move rfl (.tmp rfl)) rfl (lt_b rfl) ?_
        refine GoD.q rfl (QEx.move rfl (.tmp rfl)) rfl (lt_b rfl) ?_
        refine GoD.q rfl (QEx.addK rfl (.tmp rfl) (.tmp rfl)) rfl (lt_b rfl) ?_
        refine GoD.q rfl (QEx.move rfl (.tmp rfl)) rfl (lt_b rfl) ?_
        refine GoD.q rfl (QEx.move rfl (.tmp rfl)) rfl (lt_b rfl) ?_
        refine GoD.q rfl (QEx.fldP 1 rfl uT49 rfl ts24 rfl (.tmp rfl) rfl) rfl (lt_b rfl) ?_
        refine GoD.q rfl (QEx.fldP 1 rfl uT24 rfl ts3 rfl (.tmp rfl) rfl) rfl (lt_b rfl) ?_
        refine GoD.qr rfl rfl (QEx.ldP1 (MassData.cells x13) (iAV x13.Center.X) rfl ag3 (.tmp rfl) rfl) rfl (lt_b rfl) ?_
        refine GoD.q rfl (QEx.cal0 (r := (iAV r17)) [(iAV x13.Center.X)] rfl Tryz.call117 (.cons (.tmp rfl) .nil) (fixed_Saturate_ok hr17) rfl rfl) rfl (lt_b rfl) ?_
        refine GoD.q rfl (QEx.mulK rfl (.tmp rfl) (.tmp rfl)) rfl (lt_b rfl) ?_
        refine GoD.q rfl (QEx.addK rfl (.tmp rfl) (.tmp rfl)) rfl (lt_b rfl) ?_
        refine GoD.q rfl (QEx.move rfl (.tmp rfl)) rfl (lt_b rfl) ?_
        refine GoD.q rfl (QEx.move rfl (.tmp rfl)) rfl (lt_b rfl) ?_
        refine GoD.q rfl (QEx.fldP 1 rfl uT49 rfl ts24 rfl (.tmp rfl) rfl) rfl (lt_b rfl) ?_
        refine GoD.q rfl (QEx.fldP 2 rfl uT24 rfl ts3 rfl (.tmp rfl) rfl) rfl (lt_b rfl) ?_
        refine GoD.qr rfl rfl (QEx.ldP1 (MassData.cells x13) (iAV x13.Center.Y) rfl ag3 (.tmp rfl) rfl) rfl (lt_b rfl) ?_
        refine GoD.q rfl (QEx.cal0 (r := (iAV r18)) [(iAV x13.Center.Y)] rfl Tryz.call117 (.cons (.tmp rfl) .nil) (fixed_Saturate_ok hr18) rfl rfl) rfl (lt_b rfl) ?_
        refine GoD.q rfl (QEx.mulK rfl (.tmp rfl) (.tmp rfl)) rfl (lt_b rfl) ?_
        refine GoD.q rfl (QEx.addK rfl (.tmp rfl) (.tmp rfl)) rfl (lt_b rfl) ?_
        refine GoD.q rfl (QEx.eq (QEx.assign rfl (.tmp rfl)) (congrArg iAV hx19)) rfl (lt_b rfl) ?_
        refine GoD.q rfl (QEx.eq (QEx.assign rfl (.tmp rfl)) (congrArg iAV hx20)) rfl (lt_b rfl) ?_
        refine GoD.q rfl (QEx.eq (QEx.assign rfl (.tmp rfl)) (congrArg iAV hx21)) rfl (lt_b rfl) ?_
        refine GoD.nil ⟨by kernel_rfl, by kernel_rfl, by kernel_rfl, by kernel_rfl, by kernel_rfl, ?_⟩
        refine GoT.nil ?_
        refine let_e h fun x22 hx22 h => ?_
        refine Wp.region ?_
        refine GoT.q rfl (QEx.addK rfl (.tmp rfl) .con) rfl (lt_b rfl) ?_
        refine GoT.q rfl (QEx.eq (QEx.move rfl (.tmp rfl)) (congrArg iAV hx22)) rfl (lt_b rfl) ?_
        refine GoT.nil ?_
        exact Round5.mk x19 x20 x21 x22 x16 [8] [] h (LS.to.mk (.b rfl rfl (.r rfl rfl (.r rfl rfl (.b rfl rfl (.b rfl rfl (.b rfl rfl (.b rfl rfl (.b rfl rfl (.b rfl rfl .n))))))))) (.b rfl rfl rfl (.b rfl rfl rfl .n)) rfl)
      · refine Wp.exit ?_
        exact Joined4.mk v7 v8 v9 v11 [] [] h (LS.to.mk (.b rfl rfl (.r rfl rfl (.r rfl rfl (.b rfl rfl (.b rfl rfl (.b rfl rfl .n)))))) (.b rfl rfl rfl (.b rfl rfl rfl .n)) rfl)
theorem massdata_OfFixtures_ok {fixtures : List Fixture} {r : MassData} (h : massdata_OfFixtures fixtures = some r) : FnR Tryz.prog 45 [((slAV 10 Fixture.av) fixtures)] (MassData.av r) := by
  refine FnR.intro' (fn := Tryz.f45) (N := 30) Tryz.func45 rfl rfl (Nat.le_of_ble_eq_true rfl) [2, 3, 5, 6, 10, 19, 25, 26, 28] ?_
  refine Wp.seq ?_
  refine Wp.region ?_
  refine GoT.a rfl (AEx.alZ rfl zt49 rfl rfl) rfl (lt_b rfl) ?_
  refine GoT.nil ?_
  refine Wp.seq ?_
  refine Wp.seq ?_
  refine Wp.region ?_
  refine GoT.q rfl (QEx.move rfl (.tmp rfl)) rfl (lt_b rfl) ?_
  refine GoT.q rfl (QEx.lenL rfl ⟨_, uT27⟩ (.tmp rfl)) rfl (lt_b rfl) ?_
  refine GoT.q rfl (QEx.gtrK rfl (.tmp rfl) .con) rfl (lt_b rfl) ?_
  refine GoT.nil ?_
  refine Wp.condS h rfl (fun h => ?_) (fun h => ?_)
  · refine let_e h fun x1 hx1 h => ?_
    refine Wp.seq ?_
    refine Wp.region ?_
    refine GoT.q rfl (QEx.as (MassData.av (⟨0, Vec.zero, 0⟩ : MassData)) (QEx.buildZ rfl uT49 zt49 (by kernel_rfl) .nil)) rfl (lt_b rfl) ?_
    refine GoT.s rfl (AEx.sto (Z := (MassData.cells x1)) rfl rfl ts49 (.tmp rfl) rfl (.tmp rfl) rfl rfl (le_b rfl) (congrArg (fun (x : MassData) => (MassData.cells x)) hx1)) rfl ?_
    refine GoT.nil ?_
    refine Wp.ret ?_
    cases h
    exact LeafQ.ret [] (by decide) (.cons (.agg rfl rfl ag49 ts49) .nil) rfl
  · refine Wp.skip ?_
    refine Wp.seq ?_
    refine Wp.region ?_
    refine GoT.q rfl (QEx.as (slT 3 0 4 MassData.av ([] : List MassData)) (QEx.assign rfl (.nil))) rfl (lt_b rfl) ?_
    refine GoT.nil ?_
    refine Wp.join1 (fun v2 => ⟨[(2, (.ptr 2 0)), (3, (slT 3 0 4 MassData.av v2))], [(2, .cells (MassData.cells MassData.zero))], [5, 6, 10, 19, 25, 26, 28]⟩) (fun v2 => massdata_OfFixtures_j3 v2 = some r) ?_ ?_
    · intro v2 h
      refine bind_e h fun r12 hr12 h => ?_
      refine let_e h fun x13 hx13 h => ?_
      refine Wp.seq ?_
      refine Wp.region ?_
      refine GoT.q rfl (QEx.move rfl (.tmp rfl)) rfl (lt_b rfl) ?_
      refine GoT.q rfl (QEx.cal0 (r := (MassData.av r12)) [((slAV 4 MassData.av) v2)] rfl Tryz.call102 (.cons (.tmp rfl) .nil) (massdata_Combine_ok hr12) rfl rfl) rfl (lt_b rfl) ?_
      refine GoT.s rfl (AEx.sto (Z := (MassData.cells x13)) rfl rfl ts49 (.tmp rfl) rfl (.tmp rfl) rfl rfl (le_b rfl) (congrArg (fun (x : MassData) => (MassData.cells x)) hx13)) rfl ?_
      refine GoT.nil ?_
      refine Wp.ret ?_
      cases h
      exact LeafQ.ret [] (by decide) (.cons (.agg rfl rfl ag49 ts49) .nil) rfl
    · refine Wp.seq ?_
      refine Wp.region ?_
      refine GoT.q rfl (QEx.move rfl (.tmp rfl)) rfl (lt_b rfl) ?_
      refine GoT.q rfl (QEx.lenL rfl ⟨_, uT27⟩ (.tmp rfl)) rfl (lt_b rfl) ?_
      refine GoT.q rfl (QEx.as (iAV 0) (QEx.move rfl .con)) rfl (lt_b rfl) ?_
      refine GoT.nil ?_
      refine Wp.block ?_
      refine Wp.loop2 (fun v3 v4 => ⟨[(2, (.ptr 2 0)), (3, (slT 3 0 4 MassData.av v3)), (10, ((slAV 10 Fixture.av) fixtures)), (11, (iAV ((fixtures).length : Int))), (12, (iAV v4))], [(2, .cells (MassData.cells MassData.zero))], [5, 6, 10, 19, 25, 26, 28]⟩) (fun n v3 v4 => massdata_OfFixtures_l2 fixtures massdata_OfFixtures_j3 n v3 v4 = some r) fuel ([] : List MassData) 0 [] [] h (LS.to.mk (.r rfl rfl (.r rfl rfl (.b rfl rfl (.b rfl rfl (.b rfl rfl .n))))) (.b rfl rfl rfl .n) rfl) ?_
      rintro (_ | n2) v3 v4 h
      · exact none_e h
      rw [massdata_OfFixtures_l2] at h
      refine Wp.seq ?_
      refine Wp.region ?_
      refine GoT.q rfl (QEx.lssK rfl (.tmp rfl) (.tmp rfl)) rfl (lt_b rfl) ?_
      refine GoT.nil ?_
      refine Wp.seq ?_
      refine Wp.condS h rfl (fun h => ?_) (fun h => ?_)
      · refine Wp.skip ?_
        refine Wp.join1 (fun v5 => ⟨[(2, (.ptr 2 0)), (3, (slT 3 0 4 MassData.av v5)), (10, ((slAV 10 Fixture.av) fixtures)), (11, (iAV ((fixtures).length : Int))), (12, (iAV v4))], [(2, .cells (MassData.cells MassData.zero))], [5, 6, 10, 19, 25, 26, 28]⟩) (fun v5 => (massdata_OfFixtures_j1 v4 (massdata_OfFixtures_l2 fixtures massdata_OfFixtures_j3 n2)) v5 = some r) ?_ ?_
        · intro v5 h
          refine let_e h fun x11 hx11 h => ?_
          refine Wp.region ?_
          refine GoT.q rfl (QEx.addK rfl (.tmp rfl) .con) rfl (lt_b rfl) ?_
          refine GoT.q rfl (QEx.eq (QEx.move rfl (.tmp rfl)) (congrArg iAV hx11)) rfl (lt_b rfl) ?_
          refine GoT.nil ?_
          exact Round2.mk v5 x11 [] [] h (LS.to.mk (.r rfl rfl (.r rfl rfl (.b rfl rfl (.b rfl rfl (.b rfl rfl .n))))) (.b rfl rfl rfl .n) rfl)
        · refine Wp.block ?_
          refine chk_e h fun c6 h => ?_
          refine let_e h fun x7 hx7 h => ?_
          refine Wp.seq ?_
          refine Wp.region ?_
          refine GoT.q rfl (QEx.as (.cptr (Fixture.cells (ix fixtures v4))) (QEx.idxL (E := Fixture.av) rfl et27 (.tmp rfl) (.tmp rfl) c6)) rfl (lt_b rfl) ?_
          refine GoT.q rfl (QEx.ldC (x := (Fixture.av (ix fixtures v4))) rfl ag35 ts35 (.tmp rfl) (.inl ⟨rfl, rfl, rfl⟩)) rfl (lt_b rfl) ?_
          refine GoT.a rfl (AEx.alZ rfl zt35 rfl rfl) rfl (lt_b rfl) ?_
          refine GoT.s rfl (AEx.sto (Z := (Fixture.cells x7)) rfl rfl ts35 (.tmp rfl) rfl (.tmp rfl) rfl rfl (le_b rfl) (congrArg (fun (x : Fixture) => (Fixture.cells x)) hx7)) rfl ?_
          refine GoT.nil ?_
          refine Wp.seq ?_
          refine Wp.region ?_
          refine GoT.q rfl (QEx.fldP 6 rfl uT35 rfl ts4 rfl (.tmp rfl) rfl) rfl (lt_b rfl) ?_
          refine GoT.qr rfl rfl (QEx.ldP1 (Fixture.cells x7) (boolAV x7.Sensor) rfl ag4 (.tmp rfl) rfl) rfl (lt_b rfl) ?_
          refine GoT.q rfl (QEx.notK rfl (.tmp rfl)) rfl (lt_b rfl) ?_
          refine GoT.nil ?_
          refine Wp.condS h rfl (fun h => ?_) (fun h => ?_)
          · refine bind_e h fun r8 hr8 h => ?_
            refine chk_e h fun c9 h => ?_
            refine let_e h fun x10 hx10 h => ?_
            refine Wp.region ?_
            refine GoT.q rfl (QEx.move rfl (.tmp rfl)) rfl (lt_b rfl) ?_
            refine GoT.q rfl (QEx.fldP 0 rfl uT35 rfl ts33 rfl (.tmp rfl) rfl) rfl (lt_b rfl) ?_
            refine GoT.qr rfl rfl (QEx.ldP (Fixture.cells x7) (Shape.av x7.Shape) rfl ag33 ts33 (.tmp rfl) (le_b rfl) rfl) rfl (lt_b rfl) ?_
            refine GoT.q rfl (QEx.fldP 3 rfl uT35 rfl ts3 rfl (.tmp rfl) rfl) rfl (lt_b rfl) ?_
            refine GoT.qr rfl rfl (QEx.ldP1 (Fixture.cells x7) (iAV x7.Density) rfl ag3 (.tmp rfl) rfl) rfl (lt_b rfl) ?_
            refine GoT.q rfl (QEx.cal0 (r := (MassData.av r8)) [(Shape.av x7.Shape), (iAV x7.Density)] rfl Tryz.call101 (.cons (.tmp rfl) (.cons (.tmp rfl) .nil)) (massdata_OfShape_ok hr8) rfl rfl) rfl (lt_b rfl) ?_
            refine GoT.q rfl (QEx.as (slT 25 0 4 MassData.av ([r8] : List MassData)) (QEx.buildSlice rfl et95 (.cons (.tmp rfl) rfl rfl rfl .nil) rfl (by decide))) rfl (lt_b rfl) ?_
            refine GoT.a rfl (AEx.appL (E := MassData.av) rfl et95 (.tmp rfl) (.tmp rfl) rfl c9 rfl rfl hx10 (by decide)) rfl (lt_b rfl) ?_
            refine GoT.q rfl (QEx.assign rfl (.tmp rfl)) rfl (lt_b rfl) ?_
            refine GoT.nil ?_
            exact Joined1.mk x10 [5] [(26, 3)] h (LS.to.mk (.r rfl rfl (.r rfl rfl (.b rfl rfl (.b rfl rfl (.b rfl rfl .n))))) (.b rfl rfl rfl .n) rfl)
          · refine Wp.skip ?_
            exact Joined1.mk v3 [5] [] h (LS.to.mk (.r rfl rfl (.r rfl rfl (.b rfl rfl (.b rfl rfl (.b rfl rfl .n))))) (.b rfl rfl rfl .n) rfl)
      · refine Wp.exit ?_
        exact Joined1.mk v3 [] [] h (LS.to.mk (.r rfl rfl (.r rfl rfl .n)) (.b rfl rfl rfl .n) rfl)
theorem body_MassData_ok {b : Body} {r : MassData} (h : body_MassData b = some r) : FnR Tryz.prog 14 [(Body.av b)] (MassData.av r) := by
  refine FnR.intro' (fn := Tryz.f14) (N := 6) Tryz.func14 rfl rfl (Nat.le_of_ble_eq_true rfl) [1, 2] ?_
  refine Wp.seq ?_
  refine Wp.region ?_
  refine GoT.a rfl (AEx.bx (Z := (Body.cells b)) rfl (.tmp rfl) rfl rfl rfl rfl) rfl (lt_b rfl) ?_
  refine GoT.a rfl (AEx.alZ rfl zt49 rfl rfl) rfl (lt_b rfl) ?_
  refine GoT.nil ?_
  refine bind_e h fun r1 hr1 h => ?_
  refine let_e h fun x2 hx2 h => ?_
  refine Wp.seq ?_
  refine Wp.region ?_
  refine GoT.q rfl (QEx.fldP 19 rfl uT29 rfl ts27 rfl (.tmp rfl) rfl) rfl (lt_b rfl) ?_
  refine GoT.qr rfl rfl (QEx.ldP1 (Body.cells b) ((slAV 10 Fixture.av) b.Fixtures) rfl ag27 (.tmp rfl) rfl) rfl (lt_b rfl) ?_
  refine GoT.q rfl (QEx.cal0 (r := (MassData.av r1)) [((slAV 10 Fixture.av) b.Fixtures)] rfl Tryz.call45 (.cons (.tmp rfl) .nil) (massdata_OfFixtures_ok hr1) rfl rfl) rfl (lt_b rfl) ?_
  refine GoT.s rfl (AEx.sto (Z := (MassData.cells x2)) rfl rfl ts49 (.tmp rfl) rfl (.tmp rfl) rfl rfl (le_b rfl) (congrArg (fun (x : MassData) => (MassData.cells x)) hx2)) rfl ?_
  refine GoT.nil ?_
  refine Wp.ret ?_
  cases h
  exact LeafQ.ret [] (by decide) (.cons (.agg rfl rfl ag49 ts49) .nil) rfl
theorem angle_Normalize_ok {a : Int} {r : Int} (h : angle_Normalize a = r) : FnR Tryz.prog 167 [(iAV a)] (iAV r) := by
  refine FnR.intro' (fn := Tryz.f167) (N := 16) Tryz.func167 rfl rfl (Nat.le_of_ble_eq_true rfl) [] ?_
  refine Wp.seq ?_
  refine Wp.region ?_
  refine GoT.q rfl (QEx.as (iAV 0) (QEx.assign rfl .con)) rfl (lt_b rfl) ?_
  refine GoT.nil ?_
  refine let_e h fun x1 hx1 h => ?_
  refine Wp.seq ?_
  refine Wp.region ?_
  refine GoT.q rfl (QEx.move rfl (.tmp rfl)) rfl (lt_b rfl) ?_
  refine GoT.q rfl (QEx.remK rfl (.tmp rfl) .con (by decide)) rfl (lt_b rfl) ?_
  refine GoT.q rfl (QEx.eq (QEx.assign rfl (.tmp rfl)) (congrArg iAV hx1)) rfl (lt_b rfl) ?_
  refine GoT.nil ?_
  refine Wp.seq ?_
  refine Wp.block ?_
  refine let_e h fun x2 hx2 h => ?_
  refine Wp.seq ?_
  refine Wp.region ?_
  refine GoT.q rfl (QEx.move rfl (.tmp rfl)) rfl (lt_b rfl) ?_
  refine GoT.q rfl (QEx.geqK rfl (.tmp rfl) .con) rfl (lt_b rfl) ?_
  refine GoT.q rfl (QEx.eq (QEx.assign rfl (.tmp rfl)) (congrArg boolAV hx2)) rfl (lt_b rfl) ?_
  refine GoT.nil ?_
  refine Wp.condS h rfl (fun h => ?_) (fun h => ?_)
  · refine let_e h fun x3 hx3 h => ?_
    refine Wp.seq ?_
    refine Wp.region ?_
    refine GoT.q rfl (QEx.move rfl (.tmp rfl)) rfl (lt_b rfl) ?_
    refine GoT.q rfl (QEx.subK rfl (.tmp rfl) .con) rfl (lt_b rfl) ?_
    refine GoT.q rfl (QEx.eq (QEx.assign rfl (.tmp rfl)) (congrArg iAV hx3)) rfl (lt_b rfl) ?_
    refine GoT.nil ?_
    refine Wp.ret ?_
    cases h
    exact LeafQ.ret [] (by decide) (.cons (.tmp rfl) .nil) rfl
  · refine let_e h fun x4 hx4 h => ?_
    refine Wp.seq ?_
    refine Wp.region ?_
    refine GoT.q rfl (QEx.move rfl (.tmp rfl)) rfl (lt_b rfl) ?_
    refine GoT.q rfl (QEx.lssK rfl (.tmp rfl) .con) rfl (lt_b rfl) ?_
    refine GoT.q rfl (QEx.eq (QEx.assign rfl (.tmp rfl)) (congrArg boolAV hx4)) rfl (lt_b rfl) ?_
    refine GoT.nil ?_
    refine Wp.condS h rfl (fun h => ?_) (fun h => ?_)
    · refine let_e h fun x5 hx5 h => ?_
      refine Wp.seq ?_
      refine Wp.region ?_
      refine GoT.q rfl (QEx.move rfl (.tmp rfl)) rfl (lt_b rfl) ?_
      refine GoT.q rfl (QEx.addK rfl (.tmp rfl) .con) rfl (lt_b rfl) ?_
      refine GoT.q rfl (QEx.eq (QEx.assign rfl (.tmp rfl)) (congrArg iAV hx5)) rfl (lt_b rfl) ?_
      refine GoT.nil ?_
      refine Wp.ret ?_
      cases h
      exact LeafQ.ret [] (by decide) (.cons (.tmp rfl) .nil) rfl
    · refine Wp.skip ?_
      refine Wp.seq ?_
      refine Wp.region ?_
      refine GoT.q rfl (QEx.move rfl (.tmp rfl)) rfl (lt_b rfl) ?_
      refine GoT.q rfl (QEx.assign rfl (.tmp rfl)) rfl (lt_b rfl) ?_
      refine GoT.nil ?_
      refine Wp.ret ?_
      cases h
      exact LeafQ.ret [] (by decide) (.cons (.tmp rfl) .nil) rfl
theorem angle_abs_ok {x_0 : Int} {r : Int} (h : angle_abs x_0 = r) : FnR Tryz.prog 166 [(iAV x_0)] (iAV r) := by
  refine FnR.intro' (fn := Tryz.f166) (N := 8) Tryz.func166 rfl rfl (Nat.le_of_ble_eq_true rfl) [] ?_
  refine Wp.seq ?_
  refine Wp.region ?_
  refine GoT.q rfl (QEx.as (iAV 0) (QEx.assign rfl .con)) rfl (lt_b rfl) ?_
  refine GoT.nil ?_
  refine Wp.seq ?_
  refine Wp.seq ?_
  refine Wp.region ?_
  refine GoT.q rfl (QEx.move rfl (.tmp rfl)) rfl (lt_b rfl) ?_
  refine GoT.q rfl (QEx.lssK rfl (.tmp rfl) .con) rfl (lt_b rfl) ?_
  refine GoT.nil ?_
  refine Wp.condS h rfl (fun h => ?_) (fun h => ?_)
  · refine let_e h fun x1 hx1 h => ?_
    refine Wp.seq ?_
    refine Wp.region ?_
    refine GoT.q rfl (QEx.move rfl (.tmp rfl)) rfl (lt_b rfl) ?_
    refine GoT.q rfl (QEx.negK rfl (.tmp rfl)) rfl (lt_b rfl) ?_
    refine GoT.q rfl (QEx.eq (QEx.assign rfl (.tmp rfl)) (congrArg iAV hx1)) rfl (lt_b rfl) ?_
    refine GoT.nil ?_
    refine Wp.ret ?_
    cases h
    exact LeafQ.ret [] (by decide) (.cons (.tmp rfl) .nil) rfl
  · refine Wp.skip ?_
    refine Wp.seq ?_
    refine Wp.region ?_
    refine GoT.q rfl (QEx.move rfl (.tmp rfl)) rfl (lt_b rfl) ?_
    refine GoT.q rfl (QEx.assign rfl (.tmp rfl)) rfl (lt_b rfl) ?_
    refine GoT.nil ?_
    refine Wp.ret ?_
    cases h
    exact LeafQ.ret [] (by decide) (.cons (.tmp rfl) .nil) rfl
theorem fixed_Clamp_ok {x_0 : Int} {low : Int} {high : Int} {r : Int} (h : fixed_Clamp x_0 low high = r) : FnR Tryz.prog 70 [(iAV x_0), (iAV low), (iAV high)] (iAV r) := by
  refine FnR.intro' (fn := Tryz.f70) (N := 23) Tryz.func70 rfl rfl (Nat.le_of_ble_eq_true rfl) [] ?_
  refine Wp.seq ?_
  refine Wp.region ?_
  refine GoT.q rfl (QEx.as (iAV 0) (QEx.assign rfl .con)) rfl (lt_b rfl) ?_
  refine GoT.nil ?_
  refine Wp.seq ?_
  refine Wp.block ?_
  refine let_e h fun x1 hx1 h => ?_
  refine Wp.seq ?_
  refine Wp.region ?_
  refine GoT.q rfl (QEx.move rfl (.tmp rfl)) rfl (lt_b rfl) ?_
  refine GoT.q rfl (QEx.move rfl (.tmp rfl)) rfl (lt_b rfl) ?_
  refine GoT.q rfl (QEx.gtrK rfl (.tmp rfl) (.tmp rfl)) rfl (lt_b rfl) ?_
  refine GoT.q rfl (QEx.move rfl (.tmp rfl)) rfl (lt_b rfl) ?_
  refine GoT.g rfl rfl rfl (fun hg => QEx.move rfl (.tmp rfl)) rfl (lt_b rfl) ?_
  refine GoT.g rfl rfl rfl (fun hg => QEx.move rfl (.tmp rfl)) rfl (lt_b rfl) ?_
  refine GoT.g rfl rfl rfl (fun hg => QEx.lssK rfl (.opt (.tmp rfl) hg) (.opt (.tmp rfl) hg)) rfl (lt_b rfl) ?_
  refine GoT.q rfl (QEx.pickK rfl (.tmp rfl) (fun hp => .con) (fun hp => (.opt (.tmp rfl) (beq_f hp)))) rfl (lt_b rfl) ?_
  refine GoT.q rfl (QEx.eq (QEx.assign rfl (.tmp rfl)) (congrArg boolAV hx1)) rfl (lt_b rfl) ?_
  refine GoT.nil ?_
  refine Wp.condS h rfl (fun h => ?_) (fun h => ?_)
  · refine Wp.seq ?_
    refine Wp.region ?_
    refine GoT.q rfl (QEx.move rfl (.tmp rfl)) rfl (lt_b rfl) ?_
    refine GoT.q rfl (QEx.assign rfl (.tmp rfl)) rfl (lt_b rfl) ?_
    refine GoT.nil ?_
    refine Wp.ret ?_
    cases h
    exact LeafQ.ret [] (by decide) (.cons (.tmp rfl) .nil) rfl
  · refine let_e h fun x2 hx2 h => ?_
    refine Wp.seq ?_
    refine Wp.region ?_
    refine GoT.q rfl (QEx.move rfl (.tmp rfl)) rfl (lt_b rfl) ?_
    refine GoT.q rfl (QEx.move rfl (.tmp rfl)) rfl (lt_b rfl) ?_
    refine GoT.q rfl (QEx.gtrK rfl (.tmp rfl) (.tmp rfl)) rfl (lt_b rfl) ?_
    refine GoT.q rfl (QEx.eq (QEx.assign rfl (.tmp rfl)) (congrArg boolAV hx2)) rfl (lt_b rfl) ?_
    refine GoT.nil ?_
    refine Wp.condS h rfl (fun h => ?_) (fun h => ?_)
    · refine Wp.seq ?_
      refine Wp.region ?_
      refine GoT.q rfl (QEx.move rfl (.tmp rfl)) rfl (lt_b rfl) ?_
      refine GoT.q rfl (QEx.assign rfl (.tmp rfl)) rfl (lt_b rfl) ?_
      refine GoT.nil ?_
      refine Wp.ret ?_
      cases h
      exact LeafQ.ret [] (by decide) (.cons (.tmp rfl) .nil) rfl
    · refine Wp.skip ?_
      refine Wp.seq ?_
      refine Wp.region ?_
      refine GoT.q rfl (QEx.move rfl (.tmp rfl)) rfl (lt_b rfl) ?_
      refine GoT.q rfl (QEx.assign rfl (.tmp rfl)) rfl (lt_b rfl) ?_
      refine GoT.nil ?_
      refine Wp.ret ?_
      cases h
      exact LeafQ.ret [] (by decide) (.cons (.tmp rfl) .nil) rfl
theorem fixed_Div_ok {a : Int} {b : Int} {r : Int} (h : fixed_Div a b = some r) : FnR Tryz.prog 109 [(iAV a), (iAV b)] (iAV r) := by
  refine FnR.intro' (fn := Tryz.f109) (N := 29) Tryz.func109 rfl rfl (Nat.le_of_ble_eq_true rfl) [] ?_
  refine Wp.seq ?_
  refine Wp.region ?_
  refine GoT.q rfl (QEx.as (iAV 0) (QEx.assign rfl .con)) rfl (lt_b rfl) ?_
  refine GoT.nil ?_
  refine let_e h fun r1 hr1 h => ?_
  refine let_e h fun r2 hr2 h => ?_
  refine let_e h fun x3 hx3 h => ?_
  refine Wp.seq ?_
  refine Wp.region ?_
  refine GoT.q rfl (QEx.move rfl (.tmp rfl)) rfl (lt_b rfl) ?_
  refine GoT.q rfl (QEx.cal0 (r := (iAV r1)) [(iAV a)] rfl Tryz.call117 (.cons (.tmp rfl) .nil) (fixed_Saturate_ok hr1) rfl rfl) rfl (lt_b rfl) ?_
  refine GoT.q rfl (QEx.mulK rfl (.tmp rfl) .con) rfl (lt_b rfl) ?_
  refine GoT.q rfl (QEx.move rfl (.tmp rfl)) rfl (lt_b rfl) ?_
  refine GoT.q rfl (QEx.cal0 (r := (iAV r2)) [(iAV b)] rfl Tryz.call117 (.cons (.tmp rfl) .nil) (fixed_Saturate_ok hr2) rfl rfl) rfl (lt_b rfl) ?_
  refine GoT.q rfl (QEx.eq (QEx.assign rfl (.tmp rfl)) (congrArg iAV hx3)) rfl (lt_b rfl) ?_
  refine GoT.q rfl (QEx.assign rfl (.tmp rfl)) rfl (lt_b rfl) ?_
  refine GoT.nil ?_
  refine Wp.seq ?_
  refine Wp.block ?_
  refine let_e h fun x4 hx4 h => ?_
  refine Wp.seq ?_
  refine Wp.region ?_
  refine GoT.q rfl (QEx.move rfl (.tmp rfl)) rfl (lt_b rfl) ?_
  refine GoT.q rfl (QEx.eqlK rfl (.tmp rfl) .con) rfl (lt_b rfl) ?_
  refine GoT.q rfl (QEx.eq (QEx.assign rfl (.tmp rfl)) (congrArg boolAV hx4)) rfl (lt_b rfl) ?_
  refine GoT.nil ?_
  refine Wp.condS h rfl (fun h => ?_) (fun h => ?_)
  · refine let_e h fun r5 hr5 h => ?_
    refine let_e h fun x6 hx6 h => ?_
    refine Wp.seq ?_
    refine Wp.region ?_
    refine GoT.q rfl (QEx.move rfl (.tmp rfl)) rfl (lt_b rfl) ?_
    refine GoT.q rfl (QEx.cal0 (r := (iAV r5)) [(iAV x3), (iAV (-1)), (iAV 1)] rfl Tryz.call70 (.cons (.tmp rfl) (.cons .con (.cons .con .nil))) (fixed_Clamp_ok hr5) rfl rfl) rfl (lt_b rfl) ?_
    refine GoT.q rfl (QEx.mulK rfl (.tmp rfl) .con) rfl (lt_b rfl) ?_
    refine GoT.q rfl (QEx.eq (QEx.assign rfl (.tmp rfl)) (congrArg iAV hx6)) rfl (lt_b rfl) ?_
    refine GoT.nil ?_
    refine Wp.ret ?_
    cases h
    exact LeafQ.ret [] (by decide) (.cons (.tmp rfl) .nil) rfl
  · refine let_e h fun x7 hx7 h => ?_
    refine Wp.seq ?_
    refine Wp.region ?_
    refine GoT.q rfl (QEx.move rfl (.tmp rfl)) rfl (lt_b rfl) ?_
    refine GoT.q rfl (QEx.lssK rfl (.tmp rfl) .con) rfl (lt_b rfl) ?_
    refine GoT.q rfl (QEx.eq (QEx.assign rfl (.tmp rfl)) (congrArg boolAV hx7)) rfl (lt_b rfl) ?_
    refine GoT.nil ?_
    refine Wp.condS h rfl (fun h => ?_) (fun h => ?_)
    · refine let_e h fun x8 hx8 h => ?_
      refine let_e h fun x9 hx9 h => ?_
      refine Wp.region ?_
      refine GoT.q rfl (QEx.move rfl (.tmp rfl)) rfl (lt_b rfl) ?_
      refine GoT.q rfl (QEx.negK rfl (.tmp rfl)) rfl (lt_b rfl) ?_
      refine GoT.q rfl (QEx.move rfl (.tmp rfl)) rfl (lt_b rfl) ?_
      refine GoT.q rfl (QEx.negK rfl (.tmp rfl)) rfl (lt_b rfl) ?_
      refine GoT.q rfl (QEx.eq (QEx.assign rfl (.tmp rfl)) (congrArg iAV hx8)) rfl (lt_b rfl) ?_
      refine GoT.q rfl (QEx.eq (QEx.assign rfl (.tmp rfl)) (congrArg iAV hx9)) rfl (lt_b rfl) ?_
      refine GoT.nil ?_
      refine bind_e h fun r10 hr10 h => ?_
      refine let_e h fun r11 hr11 h => ?_
      refine Wp.seq ?_
      refine Wp.region ?_
      refine GoT.q rfl (QEx.move rfl (.tmp rfl)) rfl (lt_b rfl) ?_
      refine GoT.q rfl (QEx.move rfl (.tmp rfl)) rfl (lt_b rfl) ?_
      refine GoT.q rfl (QEx.cal0 (r := (iAV r10)) [(iAV x8), (iAV x9)] rfl Tryz.call118 (.cons (.tmp rfl) (.cons (.tmp rfl) .nil)) (fixed_RoundDiv_ok hr10) rfl rfl) rfl (lt_b rfl) ?_
      refine GoT.q rfl (QEx.cal0 (r := (iAV r11)) [(iAV r10)] rfl Tryz.call117 (.cons (.tmp rfl) .nil) (fixed_Saturate_ok hr11) rfl rfl) rfl (lt_b rfl) ?_
      refine GoT.q rfl (QEx.assign rfl (.tmp rfl)) rfl (lt_b rfl) ?_
      refine GoT.nil ?_
      refine Wp.ret ?_
      cases h
      exact LeafQ.ret [] (by decide) (.cons (.tmp rfl) .nil) rfl
    · refine Wp.skip ?_
      refine bind_e h fun r12 hr12 h => ?_
      refine let_e h fun r13 hr13 h => ?_
      refine Wp.seq ?_
      refine Wp.region ?_
      refine GoT.q rfl (QEx.move rfl (.tmp rfl)) rfl (lt_b rfl) ?_
      refine GoT.q rfl (QEx.move rfl (.tmp rfl)) rfl (lt_b rfl) ?_
      refine GoT.q rfl (QEx.cal0 (r := (iAV r12)) [(iAV x3), (iAV r2)] rfl Tryz.call118 (.cons (.tmp rfl) (.cons (.tmp rfl) .nil)) (fixed_RoundDiv_ok hr12) rfl rfl) rfl (lt_b rfl) ?_
      refine GoT.q rfl (QEx.cal0 (r := (iAV r13)) [(iAV r12)] rfl Tryz.call117 (.cons (.tmp rfl) .nil) (fixed_Saturate_ok hr13) rfl rfl) rfl (lt_b rfl) ?_
      refine GoT.q rfl (QEx.assign rfl (.tmp rfl)) rfl (lt_b rfl) ?_
      refine GoT.nil ?_
      refine Wp.ret ?_
      cases h
      exact LeafQ.ret [] (by decide) (.cons (.tmp rfl) .nil) rfl
theorem angle_Sin_ok {a : Int} {r : Int} (h : angle_Sin a = some r) : FnR Tryz.prog 150 [(iAV a)] (iAV r) := by
  refine FnR.intro' (fn := Tryz.f150) (N := 35) Tryz.func150 rfl rfl (Nat.le_of_ble_eq_true rfl) [] ?_
  refine Wp.seq ?_
  refine Wp.region ?_
  refine GoT.q rfl (QEx.as (iAV 0) (QEx.assign rfl .con)) rfl (lt_b rfl) ?_
  refine GoT.nil ?_
  refine let_e h fun r1 hr1 h => ?_
  refine Wp.seq ?_
  refine Wp.region ?_
  refine GoT.q rfl (QEx.move rfl (.tmp rfl)) rfl (lt_b rfl) ?_
  refine GoT.q rfl (QEx.cal0 (r := (iAV r1)) [(iAV a)] rfl Tryz.call167 (.cons (.tmp rfl) .nil) (angle_Normalize_ok hr1) rfl rfl) rfl (lt_b rfl) ?_
  refine GoT.q rfl (QEx.assign rfl (.tmp rfl)) rfl (lt_b rfl) ?_
  refine GoT.nil ?_
  refine let_e h fun r2 hr2 h => ?_
  refine Wp.seq ?_
  refine Wp.region ?_
  refine GoT.q rfl (QEx.move rfl (.tmp rfl)) rfl (lt_b rfl) ?_
  refine GoT.q rfl (QEx.cal0 (r := (iAV r2)) [(iAV r1)] rfl Tryz.call166 (.cons (.tmp rfl) .nil) (angle_abs_ok hr2) rfl rfl) rfl (lt_b rfl) ?_
  refine GoT.q rfl (QEx.assign rfl (.tmp rfl)) rfl (lt_b rfl) ?_
  refine GoT.nil ?_
  refine Wp.join1 (fun v3 => ⟨[(0, (iAV r1)), (3, (iAV v3))], [], []⟩) (fun v3 => (angle_Sin_j1 r1) v3 = some r) ?_ ?_
  · intro v3 h
    refine bind_e h fun r5 hr5 h => ?_
    refine Wp.seq ?_
    refine Wp.region ?_
    refine GoT.q rfl (QEx.move rfl (.tmp rfl)) rfl (lt_b rfl) ?_
    refine GoT.q rfl (QEx.cal0 (r := (iAV r5)) [(iAV v3), (iAV 102944)] rfl Tryz.call109 (.cons (.tmp rfl) (.cons .con .nil)) (fixed_Div_ok hr5) rfl rfl) rfl (lt_b rfl) ?_
    refine GoT.q rfl (QEx.assign rfl (.tmp rfl)) rfl (lt_b rfl) ?_
    refine GoT.nil ?_
    refine bind_e h fun r6 hr6 h => ?_
    refine Wp.seq ?_
    refine Wp.region ?_
    refine GoT.q rfl (QEx.move rfl (.tmp rfl)) rfl (lt_b rfl) ?_
    refine GoT.q rfl (QEx.move rfl (.tmp rfl)) rfl (lt_b rfl) ?_
    refine GoT.q rfl (QEx.cal0 (r := (iAV r6)) [(iAV r5), (iAV r5)] rfl Tryz.call62 (.cons (.tmp rfl) (.cons (.tmp rfl) .nil)) (fixed_Mul_ok hr6) rfl rfl) rfl (lt_b rfl) ?_
    refine GoT.q rfl (QEx.assign rfl (.tmp rfl)) rfl (lt_b rfl) ?_
    refine GoT.nil ?_
    refine bind_e h fun r7 hr7 h => ?_
    refine let_e h fun r8 hr8 h => ?_
    refine Wp.seq ?_
    refine Wp.region ?_
    refine GoT.q rfl (QEx.move rfl (.tmp rfl)) rfl (lt_b rfl) ?_
    refine GoT.q rfl (QEx.cal0 (r := (iAV r7)) [(iAV r6), (iAV 4569)] rfl Tryz.call62 (.cons (.tmp rfl) (.cons .con .nil)) (fixed_Mul_ok hr7) rfl rfl) rfl (lt_b rfl) ?_
    refine GoT.q rfl (QEx.cal0 (r := (iAV r8)) [(iAV 41906), (iAV r7)] rfl Tryz.call111 (.cons .con (.cons (.tmp rfl) .nil)) (fixed_Sub_ok hr8) rfl rfl) rfl (lt_b rfl) ?_
    refine GoT.q rfl (QEx.assign rfl (.tmp rfl)) rfl (lt_b rfl) ?_
    refine GoT.nil ?_
    refine bind_e h fun r9 hr9 h => ?_
    refine let_e h fun r10 hr10 h => ?_
    refine bind_e h fun r11 hr11 h => ?_
    refine Wp.seq ?_
    refine Wp.region ?_
    refine GoT.q rfl (QEx.move rfl (.tmp rfl)) rfl (lt_b rfl) ?_
    refine GoT.q rfl (QEx.move rfl (.tmp rfl)) rfl (lt_b rfl) ?_
    refine GoT.q rfl (QEx.move rfl (.tmp rfl)) rfl (lt_b rfl) ?_
    refine GoT.q rfl (QEx.cal0 (r := (iAV r9)) [(iAV r6), (iAV r8)] rfl Tryz.call62 (.cons (.tmp rfl) (.cons (.tmp rfl) .nil)) (fixed_Mul_ok hr9) rfl rfl) rfl (lt_b rfl) ?_
    refine GoT.q rfl (QEx.cal0 (r := (iAV r10)) [(iAV 102873), (iAV r9)] rfl Tryz.call111 (.cons .con (.cons (.tmp rfl) .nil)) (fixed_Sub_ok hr10) rfl rfl) rfl (lt_b rfl) ?_
    refine GoT.q rfl (QEx.cal0 (r := (iAV r11)) [(iAV r5), (iAV r10)] rfl Tryz.call62 (.cons (.tmp rfl) (.cons (.tmp rfl) .nil)) (fixed_Mul_ok hr11) rfl rfl) rfl (lt_b rfl) ?_
    refine GoT.q rfl (QEx.assign rfl (.tmp rfl)) rfl (lt_b rfl) ?_
    refine GoT.nil ?_
    refine Wp.seq ?_
    refine Wp.seq ?_
    refine Wp.region ?_
    refine GoT.q rfl (QEx.move rfl (.tmp rfl)) rfl (lt_b rfl) ?_
    refine GoT.q rfl (QEx.lssK rfl (.tmp rfl) .con) rfl (lt_b rfl) ?_
    refine GoT.nil ?_
    refine Wp.condS h rfl (fun h => ?_) (fun h => ?_)
    · refine let_e h fun x12 hx12 h => ?_
      refine Wp.seq ?_
      refine Wp.region ?_
      refine GoT.q rfl (QEx.move rfl (.tmp rfl)) rfl (lt_b rfl) ?_
      refine GoT.q rfl (QEx.negK rfl (.tmp rfl)) rfl (lt_b rfl) ?_
      refine GoT.q rfl (QEx.eq (QEx.assign rfl (.tmp rfl)) (congrArg iAV hx12)) rfl (lt_b rfl) ?_
      refine GoT.nil ?_
      refine Wp.ret ?_
      cases h
      exact LeafQ.ret [] (by decide) (.cons (.tmp rfl) .nil) rfl
    · refine Wp.skip ?_
      refine Wp.seq ?_
      refine Wp.region ?_
      refine GoT.q rfl (QEx.move rfl (.tmp rfl)) rfl (lt_b rfl) ?_
      refine GoT.q rfl (QEx.assign rfl (.tmp rfl)) rfl (lt_b rfl) ?_
      refine GoT.nil ?_
      refine Wp.ret ?_
      cases h
      exact LeafQ.ret [] (by decide) (.cons (.tmp rfl) .nil) rfl
  · refine Wp.seq ?_
    refine Wp.region ?_
    refine GoT.q rfl (QEx.move rfl (.tmp rfl)) rfl (lt_b rfl) ?_
    refine GoT.q rfl (QEx.gtrK rfl (.tmp rfl) .con) rfl (lt_b rfl) ?_
    refine GoT.nil ?_
    refine Wp.condS h rfl (fun h => ?_) (fun h => ?_)
    · refine let_e h fun x4 hx4 h => ?_
      refine Wp.region ?_
      refine GoT.q rfl (QEx.move rfl (.tmp rfl)) rfl (lt_b rfl) ?_
      refine GoT.q rfl (QEx.subK rfl .con (.tmp rfl)) rfl (lt_b rfl) ?_
      refine GoT.q rfl (QEx.eq (QEx.assign rfl (.tmp rfl)) (congrArg iAV hx4)) rfl (lt_b rfl) ?_
      refine GoT.nil ?_
      exact Joined1.mk x4 [] [] h (LS.to.mk (.b rfl rfl (.b rfl rfl .n)) .n rfl)
    · refine Wp.skip ?_
      exact Joined1.mk r2 [] [] h (LS.to.mk (.b rfl rfl (.b rfl rfl .n)) .n rfl)
theorem angle_Cos_ok {a : Int} {r : Int} (h : angle_Cos a = some r) : FnR Tryz.prog 149 [(iAV a)] (iAV r) := by
  refine FnR.intro' (fn := Tryz.f149) (N := 8) Tryz.func149 rfl rfl (Nat.le_of_ble_eq_true rfl) [] ?_
  refine Wp.seq ?_
  refine Wp.region ?_
  refine GoT.q rfl (QEx.as (iAV 0) (QEx.assign rfl .con)) rfl (lt_b rfl) ?_
  refine GoT.nil ?_
  refine let_e h fun r1 hr1 h => ?_
  refine let_e h fun r2 hr2 h => ?_
  refine bind_e h fun r3 hr3 h => ?_
  refine Wp.seq ?_
  refine Wp.region ?_
  refine GoT.q rfl (QEx.move rfl (.tmp rfl)) rfl (lt_b rfl) ?_
  refine GoT.q rfl (QEx.cal0 (r := (iAV r1)) [(iAV a)] rfl Tryz.call167 (.cons (.tmp rfl) .nil) (angle_Normalize_ok hr1) rfl rfl) rfl (lt_b rfl) ?_
  refine GoT.q rfl (QEx.cal0 (r := (iAV r2)) [(iAV r1)] rfl Tryz.call166 (.cons (.tmp rfl) .nil) (angle_abs_ok hr2) rfl rfl) rfl (lt_b rfl) ?_
  refine GoT.q rfl (QEx.subK rfl .con (.tmp rfl)) rfl (lt_b rfl) ?_
  refine GoT.q rfl (QEx.cal0 (r := (iAV r3)) [(iAV (w64 (102944 - r2)))] rfl Tryz.call150 (.cons (.tmp rfl) .nil) (angle_Sin_ok hr3) rfl rfl) rfl (lt_b rfl) ?_
  refine GoT.q rfl (QEx.assign rfl (.tmp rfl)) rfl (lt_b rfl) ?_
  refine GoT.nil ?_
  refine Wp.ret ?_
  cases h
  exact LeafQ.ret [] (by decide) (.cons (.tmp rfl) .nil) rfl
theorem angle_Rot_ok {a : Int} {r : Rot} (h : angle_Rot a = some r) : FnR Tryz.prog 106 [(iAV a)] (Rot.av r) := by
  refine FnR.intro' (fn := Tryz.f106) (N := 25) Tryz.func106 rfl rfl (Nat.le_of_ble_eq_true rfl) [2] ?_
  refine Wp.seq ?_
  refine Wp.region ?_
  refine GoT.a rfl (AEx.alZ rfl zt100 rfl rfl) rfl (lt_b rfl) ?_
  refine GoT.nil ?_
  refine bind_e h fun r1 hr1 h => ?_
  refine bind_e h fun r2 hr2 h => ?_
  refine Wp.seq ?_
  refine Wp.region ?_
  refine GoT.q rfl (QEx.move rfl (.tmp rfl)) rfl (lt_b rfl) ?_
  refine GoT.q rfl (QEx.cal0 (r := (iAV r1)) [(iAV a)] rfl Tryz.call149 (.cons (.tmp rfl) .nil) (angle_Cos_ok hr1) rfl rfl) rfl (lt_b rfl) ?_
  refine GoT.q rfl (QEx.move rfl (.tmp rfl)) rfl (lt_b rfl) ?_
  refine GoT.q rfl (QEx.cal0 (r := (iAV r2)) [(iAV a)] rfl Tryz.call150 (.cons (.tmp rfl) .nil) (angle_Sin_ok hr2) rfl rfl) rfl (lt_b rfl) ?_
  refine GoT.q rfl (QEx.assign rfl (.tmp rfl)) rfl (lt_b rfl) ?_
  refine GoT.q rfl (QEx.assign rfl (.tmp rfl)) rfl (lt_b rfl) ?_
  refine GoT.nil ?_
  refine bind_e h fun r3 hr3 h => ?_
  refine Wp.seq ?_
  refine Wp.region ?_
  refine GoT.q rfl (QEx.move rfl (.tmp rfl)) rfl (lt_b rfl) ?_
  refine GoT.q rfl (QEx.move rfl (.tmp rfl)) rfl (lt_b rfl) ?_
  refine GoT.q rfl (QEx.mulK rfl (.tmp rfl) (.tmp rfl)) rfl (lt_b rfl) ?_
  refine GoT.q rfl (QEx.move rfl (.tmp rfl)) rfl (lt_b rfl) ?_
  refine GoT.q rfl (QEx.move rfl (.tmp rfl)) rfl (lt_b rfl) ?_
  refine GoT.q rfl (QEx.mulK rfl (.tmp rfl) (.tmp rfl)) rfl (lt_b rfl) ?_
  refine GoT.q rfl (QEx.addK rfl (.tmp rfl) (.tmp rfl)) rfl (lt_b rfl) ?_
  refine GoT.q rfl (QEx.cal0 (r := (iAV r3)) [(iAV (w64 ((w64 (r1 * r1)) + (w64 (r2 * r2)))))] rfl Tryz.call129 (.cons (.tmp rfl) .nil) (fixed_Isqrt_ok hr3) rfl rfl) rfl (lt_b rfl) ?_
  refine GoT.q rfl (QEx.assign rfl (.tmp rfl)) rfl (lt_b rfl) ?_
  refine GoT.nil ?_
  refine bind_e h fun r4 hr4 h => ?_
  refine bind_e h fun r5 hr5 h => ?_
  refine let_e h fun x6 hx6 h => ?_
  refine Wp.seq ?_
  refine Wp.region ?_
  refine GoT.q rfl (QEx.move rfl (.tmp rfl)) rfl (lt_b rfl) ?_
  refine GoT.q rfl (QEx.move rfl (.tmp rfl)) rfl (lt_b rfl) ?_
  refine GoT.q rfl (QEx.cal0 (r := (iAV r4)) [(iAV r1), (iAV r3)] rfl Tryz.call109 (.cons (.tmp rfl) (.cons (.tmp rfl) .nil)) (fixed_Div_ok hr4) rfl rfl) rfl (lt_b rfl) ?_
  refine GoT.q rfl (QEx.move rfl (.tmp rfl)) rfl (lt_b rfl) ?_
  refine GoT.q rfl (QEx.move rfl (.tmp rfl)) rfl (lt_b rfl) ?_
  refine GoT.q rfl (QEx.cal0 (r := (iAV r5)) [(iAV r2), (iAV r3)] rfl Tryz.call109 (.cons (.tmp rfl) (.cons (.tmp rfl) .nil)) (fixed_Div_ok hr5) rfl rfl) rfl (lt_b rfl) ?_
  refine GoT.q rfl (QEx.as (Rot.av (⟨r4, r5⟩ : Rot)) (QEx.buildZ rfl uT100 zt100 (by kernel_rfl) (.cons rfl (.tmp rfl) rfl rfl (le_b rfl) (.cons rfl (.tmp rfl) rfl rfl (le_b rfl) .nil)))) rfl (lt_b rfl) ?_
  refine GoT.s rfl (AEx.sto (Z := (Rot.cells x6)) rfl rfl ts100 (.tmp rfl) rfl (.tmp rfl) rfl rfl (le_b rfl) (congrArg (fun (x : Rot) => (Rot.cells x)) hx6)) rfl ?_
  refine GoT.nil ?_
  refine Wp.ret ?_
  cases h
  exact LeafQ.ret [] (by decide) (.cons (.agg rfl rfl ag100 ts100) .nil) rfl
theorem vec2_Rotate_ok {r_0 : Rot} {v_1 : Vec} {r : Vec} (h : vec2_Rotate r_0 v_1 = some r) : FnR Tryz.prog 105 [(Rot.av r_0), (Vec.av v_1)] (Vec.av r) := by
  refine FnR.intro' (fn := Tryz.f105) (N := 36) Tryz.func105 rfl rfl (Nat.le_of_ble_eq_true rfl) [2, 3, 4] ?_
  refine Wp.seq ?_
  refine Wp.region ?_
  refine GoT.a rfl (AEx.bx (Z := (Rot.cells r_0)) rfl (.tmp rfl) rfl rfl rfl rfl) rfl (lt_b rfl) ?_
  refine GoT.a rfl (AEx.bx (Z := (Vec.cells v_1)) rfl (.tmp rfl) rfl rfl rfl rfl) rfl (lt_b rfl) ?_
  refine GoT.a rfl (AEx.alZ rfl zt24 rfl rfl) rfl (lt_b rfl) ?_
  refine GoT.nil ?_
  refine let_e h fun r1 hr1 h => ?_
  refine let_e h fun r2 hr2 h => ?_
  refine let_e h fun r3 hr3 h => ?_
  refine let_e h fun x4 hx4 h => ?_
  refine Wp.seq ?_
  refine Wp.drawn2 (n0 := 11) [] mixed ?_
  refine GoD.q rfl (QEx.fldP 0 rfl uT100 rfl ts3 rfl (.tmp rfl) rfl) rfl (lt_b rfl) ?_
  refine GoD.qr rfl rfl (QEx.ldP1 (Rot.cells r_0) (iAV r_0.Cos) rfl ag3 (.tmp rfl) rfl) rfl (lt_b rfl) ?_
  refine GoD.q rfl (QEx.cal0 (r := (iAV r1)) [(iAV r_0.Cos)] rfl Tryz.call117 (.cons (.tmp rfl) .nil) (fixed_Saturate_ok hr1) rfl rfl) rfl (lt_b rfl) ?_
  refine GoD.q rfl (QEx.fldP 1 rfl uT100 rfl ts3 rfl (.tmp rfl) rfl) rfl (lt_b rfl) ?_
  refine GoD.qr rfl rfl (QEx.ldP1 (Rot.cells r_0) (iAV r_0.Sin) rfl ag3 (.tmp rfl) rfl) rfl (lt_b rfl) ?_
  refine GoD.q rfl (QEx.cal0 (r := (iAV r2)) [(iAV r_0.Sin)] rfl Tryz.call117 (.cons (.tmp rfl) .nil) (fixed_Saturate_ok hr2) rfl rfl) rfl (lt_b rfl) ?_
  refine GoD.qr rfl rfl (QEx.ldP (Vec.cells v_1) (Vec.av v_1) rfl ag24 ts24 (.tmp rfl) (le_b rfl) rfl) rfl (lt_b rfl) ?_
  refine GoD.q rfl (QEx.cal0 (r := (Vec.av r3)) [(Vec.av v_1)] rfl Tryz.call119 (.cons (.tmp rfl) .nil) (vec2_saturate_ok hr3) rfl rfl) rfl (lt_b rfl) ?_
  refine GoD.q rfl (QEx.assign rfl (.tmp rfl)) rfl (lt_b rfl) ?_
  refine GoD.q rfl (QEx.assign rfl (.tmp rfl)) rfl (lt_b rfl) ?_
  refine GoD.s rfl (Z := (Vec.cells x4)) rfl rfl ts24 (.tmp rfl) rfl (.tmp rfl) rfl rfl (le_b rfl) (congrArg (fun (x : Vec) => (Vec.cells x)) hx4) ?_
  refine GoD.nil ⟨by kernel_rfl, by kernel_rfl, by kernel_rfl, by kernel_rfl, by kernel_rfl, ?_⟩
  refine GoT.nil ?_
  refine bind_e h fun r5 hr5 h => ?_
  refine bind_e h fun r6 hr6 h => ?_
  refine let_e h fun x7 hx7 h => ?_
  refine Wp.seq ?_
  refine Wp.drawn2 (n0 := 22) [] mixed ?_
  refine GoD.q rfl (QEx.move rfl (.tmp rfl)) rfl (lt_b rfl) ?_
  refine GoD.q rfl (QEx.fldP 0 rfl uT24 rfl ts3 rfl (.tmp rfl) rfl) rfl (lt_b rfl) ?_
  refine GoD.qr rfl rfl (QEx.ldP1 (Vec.cells x4) (iAV x4.X) rfl ag3 (.tmp rfl) rfl) rfl (lt_b rfl) ?_
  refine GoD.q rfl (QEx.mulK rfl (.tmp rfl) (.tmp rfl)) rfl (lt_b rfl) ?_
  refine GoD.q rfl (QEx.move rfl (.tmp rfl)) rfl (lt_b rfl) ?_
  refine GoD.q rfl (QEx.fldP 1 rfl uT24 rfl ts3 rfl (.tmp rfl) rfl) rfl (lt_b rfl) ?_
  refine GoD.qr rfl rfl (QEx.ldP1 (Vec.cells x4) (iAV x4.Y) rfl ag3 (.tmp rfl) rfl) rfl (lt_b rfl) ?_
  refine GoD.q rfl (QEx.mulK rfl (.tmp rfl) (.tmp rfl)) rfl (lt_b rfl) ?_
  refine GoD.q rfl (QEx.subK rfl (.tmp rfl) (.tmp rfl)) rfl (lt_b rfl) ?_
  refine GoD.q rfl (QEx.cal0 (r := (iAV r5)) [(iAV (w64 ((w64 (r1 * x4.X)) - (w64 (r2 * x4.Y)))))] rfl Tryz.call120 (.cons (.tmp rfl) .nil) (vec2_product_ok hr5) rfl rfl) rfl (lt_b rfl) ?_
  refine GoD.q rfl (QEx.move rfl (.tmp rfl)) rfl (lt_b rfl) ?_
  refine GoD.q rfl (QEx.fldP 0 rfl uT24 rfl ts3 rfl (.tmp rfl) rfl) rfl (lt_b rfl) ?_
  refine GoD.qr rfl rfl (QEx.ldP1 (Vec.cells x4) (iAV x4.X) rfl ag3 (.tmp rfl) rfl) rfl (lt_b rfl) ?_
  refine GoD.q rfl (QEx.mulK rfl (.tmp rfl) (.tmp rfl)) rfl (lt_b rfl) ?_
  refine GoD.q rfl (QEx.move rfl (.tmp rfl)) rfl (lt_b rfl) ?_
  refine GoD.q rfl (QEx.fldP 1 rfl uT24 rfl ts3 rfl (.tmp rfl) rfl) rfl (lt_b rfl) ?_
  refine GoD.qr rfl rfl (QEx.ldP1 (Vec.cells x4) (iAV x4.Y) rfl ag3 (.tmp rfl) rfl) rfl (lt_b rfl) ?_
  refine GoD.q rfl (QEx.mulK rfl (.tmp rfl) (.tmp rfl)) rfl (lt_b rfl) ?_
  refine GoD.q rfl (QEx.addK rfl (.tmp rfl) (.tmp rfl)) rfl (lt_b rfl) ?_
  refine GoD.q rfl (QEx.cal0 (r := (iAV r6)) [(iAV (w64 ((w64 (r2 * x4.X)) + (w64 (r1 * x4.Y)))))] rfl Tryz.call120 (.cons (.tmp rfl) .nil) (vec2_product_ok hr6) rfl rfl) rfl (lt_b rfl) ?_
  refine GoD.q rfl (QEx.as (Vec.av (⟨r5, r6⟩ : Vec)) (QEx.buildZ rfl uT24 zt24 (by kernel_rfl) (.cons rfl (.tmp rfl) rfl rfl (le_b rfl) (.cons rfl (.tmp rfl) rfl rfl (le_b rfl) .nil)))) rfl (lt_b rfl) ?_
  refine GoD.s rfl (Z := (Vec.cells x7)) rfl rfl ts24 (.tmp rfl) rfl (.tmp rfl) rfl rfl (le_b rfl) (congrArg (fun (x : Vec) => (Vec.cells x)) hx7) ?_
  refine GoD.nil ⟨by kernel_rfl, by kernel_rfl, by kernel_rfl, by kernel_rfl, by kernel_rfl, ?_⟩
  refine GoT.nil ?_
  refine Wp.ret ?_
  cases h
  exact LeafQ.ret [] (by decide) (.cons (.agg rfl rfl ag24 ts24) .nil) rfl
theorem vec2_Add_ok {a : Vec} {b : Vec} {r : Vec} (h : vec2_Add a b = r) : FnR Tryz.prog 52 [(Vec.av a), (Vec.av b)] (Vec.av r) := by
  refine FnR.intro' (fn := Tryz.f52) (N := 16) Tryz.func52 rfl rfl (Nat.le_of_ble_eq_true rfl) [2, 3, 4] ?_
  refine Wp.seq ?_
  refine Wp.region ?_
  refine GoT.a rfl (AEx.bx (Z := (Vec.cells a)) rfl (.tmp rfl) rfl rfl rfl rfl) rfl (lt_b rfl) ?_
  refine GoT.a rfl (AEx.bx (Z := (Vec.cells b)) rfl (.tmp rfl) rfl rfl rfl rfl) rfl (lt_b rfl) ?_
  refine GoT.a rfl (AEx.alZ rfl zt24 rfl rfl) rfl (lt_b rfl) ?_
  refine GoT.nil ?_
  refine let_e h fun r1 hr1 h => ?_
  refine let_e h fun r2 hr2 h => ?_
  refine let_e h fun x3 hx3 h => ?_
  refine Wp.seq ?_
  refine Wp.drawn2 (n0 := 12) [] mixed ?_
  refine GoD.q rfl (QEx.fldP 0 rfl uT24 rfl ts3 rfl (.tmp rfl) rfl) rfl (lt_b rfl) ?_
  refine GoD.qr rfl rfl (QEx.ldP1 (Vec.cells a) (iAV a.X) rfl ag3 (.tmp rfl) rfl) rfl (lt_b rfl) ?_
  refine GoD.q rfl (QEx.fldP 0 rfl uT24 rfl ts3 rfl (.tmp rfl) rfl) rfl (lt_b rfl) ?_
  refine GoD.qr rfl rfl (QEx.ldP1 (Vec.cells b) (iAV b.X) rfl ag3 (.tmp rfl) rfl) rfl (lt_b rfl) ?_
  refine GoD.q rfl (QEx.cal0 (r := (iAV r1)) [(iAV a.X), (iAV b.X)] rfl Tryz.call61 (.cons (.tmp rfl) (.cons (.tmp rfl) .nil)) (fixed_Add_ok hr1) rfl rfl) rfl (lt_b rfl) ?_
  refine GoD.q rfl (QEx.fldP 1 rfl uT24 rfl ts3 rfl (.tmp rfl) rfl) rfl (lt_b rfl) ?_
  refine GoD.qr rfl rfl (QEx.ldP1 (Vec.cells a) (iAV a.Y) rfl ag3 (.tmp rfl) rfl) rfl (lt_b rfl) ?_
  refine GoD.q rfl (QEx.fldP 1 rfl uT24 rfl ts3 rfl (.tmp rfl) rfl) rfl (lt_b rfl) ?_
  refine GoD.qr rfl rfl (QEx.ldP1 (Vec.cells b) (iAV b.Y) rfl ag3 (.tmp rfl) rfl) rfl (lt_b rfl) ?_
  refine GoD.q rfl (QEx.cal0 (r := (iAV r2)) [(iAV a.Y), (iAV b.Y)] rfl Tryz.call61 (.cons (.tmp rfl) (.cons (.tmp rfl) .nil)) (fixed_Add_ok hr2) rfl rfl) rfl (lt_b rfl) ?_
  refine GoD.q rfl (QEx.as (Vec.av (⟨r1, r2⟩ : Vec)) (QEx.buildZ rfl uT24 zt24 (by kernel_rfl) (.cons rfl (.tmp rfl) rfl rfl (le_b rfl) (.cons rfl (.tmp rfl) rfl rfl (le_b rfl) .nil)))) rfl (lt_b rfl) ?_
  refine GoD.s rfl (Z := (Vec.cells x3)) rfl rfl ts24 (.tmp rfl) rfl (.tmp rfl) rfl rfl (le_b rfl) (congrArg (fun (x : Vec) => (Vec.cells x)) hx3) ?_
  refine GoD.nil ⟨by kernel_rfl, by kernel_rfl, by kernel_rfl, by kernel_rfl, by kernel_rfl, ?_⟩
  refine GoT.nil ?_
  refine Wp.ret ?_
  cases h
  exact LeafQ.ret [] (by decide) (.cons (.agg rfl rfl ag24 ts24) .nil) rfl
theorem transform_Apply_ok {t : Transform} {v_1 : Vec} {r : Vec} (h : transform_Apply t v_1 = some r) : FnR Tryz.prog 47 [(Transform.av t), (Vec.av v_1)] (Vec.av r) := by
  refine FnR.intro' (fn := Tryz.f47) (N := 13) Tryz.func47 rfl rfl (Nat.le_of_ble_eq_true rfl) [2, 3, 4] ?_
  refine Wp.seq ?_
  refine Wp.region ?_
  refine GoT.a rfl (AEx.bx (Z := (Transform.cells t)) rfl (.tmp rfl) rfl rfl rfl rfl) rfl (lt_b rfl) ?_
  refine GoT.a rfl (AEx.bx (Z := (Vec.cells v_1)) rfl (.tmp rfl) rfl rfl rfl rfl) rfl (lt_b rfl) ?_
  refine GoT.a rfl (AEx.alZ rfl zt24 rfl rfl) rfl (lt_b rfl) ?_
  refine GoT.nil ?_
  refine bind_e h fun r1 hr1 h => ?_
  refine bind_e h fun r2 hr2 h => ?_
  refine let_e h fun r3 hr3 h => ?_
  refine let_e h fun x4 hx4 h => ?_
  refine Wp.seq ?_
  refine Wp.drawn2 (n0 := 9) [] mixed ?_
  refine GoD.q rfl (QEx.fldP 2 rfl uT26 rfl ts3 rfl (.tmp rfl) rfl) rfl (lt_b rfl) ?_
  refine GoD.qr rfl rfl (QEx.ldP1 (Transform.cells t) (iAV t.Angle) rfl ag3 (.tmp rfl) rfl) rfl (lt_b rfl) ?_
  refine GoD.q rfl (QEx.cal0 (r := (Rot.av r1)) [(iAV t.Angle)] rfl Tryz.call106 (.cons (.tmp rfl) .nil) (angle_Rot_ok hr1) rfl rfl) rfl (lt_b rfl) ?_
  refine GoD.qr rfl rfl (QEx.ldP (Vec.cells v_1) (Vec.av v_1) rfl ag24 ts24 (.tmp rfl) (le_b rfl) rfl) rfl (lt_b rfl) ?_
  refine GoD.q rfl (QEx.cal0 (r := (Vec.av r2)) [(Rot.av r1), (Vec.av v_1)] rfl Tryz.call105 (.cons (.tmp rfl) (.cons (.tmp rfl) .nil)) (vec2_Rotate_ok hr2) rfl rfl) rfl (lt_b rfl) ?_
  refine GoD.q rfl (QEx.fldP 0 rfl uT26 rfl ts24 rfl (.tmp rfl) rfl) rfl (lt_b rfl) ?_
  refine GoD.qr rfl rfl (QEx.ldP (Transform.cells t) (Vec.av t.Position) rfl ag24 ts24 (.tmp rfl) (le_b rfl) rfl) rfl (lt_b rfl) ?_
  refine GoD.q rfl (QEx.cal0 (r := (Vec.av r3)) [(Vec.av r2), (Vec.av t.Position)] rfl Tryz.call52 (.cons (.tmp rfl) (.cons (.tmp rfl) .nil)) (vec2_Add_ok hr3) rfl rfl) rfl (lt_b rfl) ?_
  refine GoD.s rfl (Z := (Vec.cells x4)) rfl rfl ts24 (.tmp rfl) rfl (.tmp rfl) rfl rfl (le_b rfl) (congrArg (fun (x : Vec) => (Vec.cells x)) hx4) ?_
  refine GoD.nil ⟨by kernel_rfl, by kernel_rfl, by kernel_rfl, by kernel_rfl, by kernel_rfl, ?_⟩
  refine GoT.nil ?_
  refine Wp.ret ?_
  cases h
  exact LeafQ.ret [] (by decide) (.cons (.agg rfl rfl ag24 ts24) .nil) rfl
theorem body_WorldCenter_ok {b : Body} {r : Vec} (h : body_WorldCenter b = some r) : FnR Tryz.prog 16 [(Body.av b)] (Vec.av r) := by
  refine FnR.intro' (fn := Tryz.f16) (N := 9) Tryz.func16 rfl rfl (Nat.le_of_ble_eq_true rfl) [1, 2] ?_
  refine Wp.seq ?_
  refine Wp.region ?_
  refine GoT.a rfl (AEx.bx (Z := (Body.cells b)) rfl (.tmp rfl) rfl rfl rfl rfl) rfl (lt_b rfl) ?_
  refine GoT.a rfl (AEx.alZ rfl zt24 rfl rfl) rfl (lt_b rfl) ?_
  refine GoT.nil ?_
  refine bind_e h fun r1 hr1 h => ?_
  refine bind_e h fun r2 hr2 h => ?_
  refine let_e h fun x3 hx3 h => ?_
  refine Wp.seq ?_
  refine Wp.drawn2 (n0 := 7) [] mixed ?_
  refine GoD.q rfl (QEx.fldP 2 rfl uT29 rfl ts26 rfl (.tmp rfl) rfl) rfl (lt_b rfl) ?_
  refine GoD.qr rfl rfl (QEx.ldP (Body.cells b) (Transform.av b.Transform) rfl ag26 ts26 (.tmp rfl) (le_b rfl) rfl) rfl (lt_b rfl) ?_
  refine GoD.qr rfl rfl (QEx.ldP (Body.cells b) (Body.av b) rfl ag29 ts29 (.tmp rfl) (le_b rfl) rfl) rfl (lt_b rfl) ?_
  refine GoD.q rfl (QEx.cal0 (r := (MassData.av r1)) [(Body.av b)] rfl Tryz.call14 (.cons (.tmp rfl) .nil) (body_MassData_ok hr1) rfl rfl) rfl (lt_b rfl) ?_
  refine GoD.q rfl (QEx.as (Vec.av r1.Center) (QEx.field rfl uT49 rfl ts24 ag24 (.tmp rfl) (.inl ⟨rfl, rfl⟩))) rfl (lt_b rfl) ?_
  refine GoD.q rfl (QEx.cal0 (r := (Vec.av r2)) [(Transform.av b.Transform), (Vec.av r1.Center)] rfl Tryz.call47 (.cons (.tmp rfl) (.cons (.tmp rfl) .nil)) (transform_Apply_ok hr2) rfl rfl) rfl (lt_b rfl) ?_
  refine GoD.s rfl (Z := (Vec.cells x3)) rfl rfl ts24 (.tmp rfl) rfl (.tmp rfl) rfl rfl (le_b rfl) (congrArg (fun (x : Vec) => (Vec.cells x)) hx3) ?_
  refine GoD.nil ⟨by kernel_rfl, by kernel_rfl, by kernel_rfl, by kernel_rfl, by kernel_rfl, ?_⟩
  refine GoT.nil ?_
  refine Wp.ret ?_
  cases h
  exact LeafQ.ret [] (by decide) (.cons (.agg rfl rfl ag24 ts24) .nil) rfl
theorem massdata_Inverse_ok {m : MassData} {kind : Int} {fixedRotation : Bool} {r : Int × Int} (h : massdata_Inverse m kind fixedRotation = some r) : FnR Tryz.prog 49 [(MassData.av m), (iAV kind), (boolAV fixedRotation)] (.tup [(iAV r.1), (iAV r.2)]) := by
  refine FnR.intro' (fn := Tryz.f49) (N := 30) Tryz.func49 rfl rfl (Nat.le_of_ble_eq_true rfl) [3] ?_
  refine Wp.seq ?_
  refine Wp.region ?_
  refine GoT.a rfl (AEx.bx (Z := (MassData.cells m)) rfl (.tmp rfl) rfl rfl rfl rfl) rfl (lt_b rfl) ?_
  refine GoT.q rfl (QEx.as (iAV 0) (QEx.assign rfl .con)) rfl (lt_b rfl) ?_
  refine GoT.q rfl (QEx.as (iAV 0) (QEx.assign rfl .con)) rfl (lt_b rfl) ?_
  refine GoT.nil ?_
  refine Wp.seq ?_
  refine Wp.seq ?_
  refine Wp.region ?_
  refine GoT.q rfl (QEx.move rfl (.tmp rfl)) rfl (lt_b rfl) ?_
  refine GoT.q rfl (QEx.neqK rfl (.tmp rfl) .con) rfl (lt_b rfl) ?_
  refine GoT.nil ?_
  refine Wp.condS h rfl (fun h => ?_) (fun h => ?_)
  · refine Wp.seq ?_
    refine Wp.region ?_
    refine GoT.q rfl (QEx.as (iAV 0) (QEx.assign rfl .con)) rfl (lt_b rfl) ?_
    refine GoT.q rfl (QEx.as (iAV 0) (QEx.assign rfl .con)) rfl (lt_b rfl) ?_
    refine GoT.nil ?_
    refine Wp.ret ?_
    cases h
    exact LeafQ.ret [] (by decide) (.cons (.tmp rfl) (.cons (.tmp rfl) .nil)) rfl
  · refine Wp.skip ?_
    refine Wp.seq ?_
    refine Wp.region ?_
    refine GoT.q rfl (QEx.as (iAV 65536) (QEx.assign rfl .con)) rfl (lt_b rfl) ?_
    refine GoT.q rfl (QEx.as (iAV 0) (QEx.assign rfl .con)) rfl (lt_b rfl) ?_
    refine GoT.nil ?_
    refine Wp.join1 (fun v1 => ⟨[(2, (boolAV fixedRotation)), (3, (.ptr 3 0)), (8, (iAV v1)), (9, (iAV 0))], [(3, .cells (MassData.cells m))], []⟩) (fun v1 => (massdata_Inverse_j1 m fixedRotation) v1 = some r) ?_ ?_
    · intro v1 h
      refine Wp.seq ?_
      refine Wp.seq ?_
      refine Wp.region ?_
      refine GoT.q rfl (QEx.fldP 3 rfl uT49 rfl ts3 rfl (.tmp rfl) rfl) rfl (lt_b rfl) ?_
      refine GoT.qr rfl rfl (QEx.ldP1 (MassData.cells m) (iAV m.Inertia) rfl ag3 (.tmp rfl) rfl) rfl (lt_b rfl) ?_
      refine GoT.q rfl (QEx.gtrK rfl (.tmp rfl) .con) rfl (lt_b rfl) ?_
      refine GoT.q rfl (QEx.move rfl (.tmp rfl)) rfl (lt_b rfl) ?_
      refine GoT.g rfl rfl rfl (fun hg => QEx.move rfl (.tmp rfl)) rfl (lt_b rfl) ?_
      refine GoT.g rfl rfl rfl (fun hg => QEx.notK rfl (.opt (.tmp rfl) hg)) rfl (lt_b rfl) ?_
      refine GoT.q rfl (QEx.pickK rfl (.tmp rfl) (fun hp => (.opt (.tmp rfl) (beq_t hp))) (fun hp => .con)) rfl (lt_b rfl) ?_
      refine GoT.nil ?_
      refine Wp.condS h rfl (fun h => ?_) (fun h => ?_)
      · refine bind_e h fun r3 hr3 h => ?_
        refine Wp.region ?_
        refine GoT.q rfl (QEx.fldP 3 rfl uT49 rfl ts3 rfl (.tmp rfl) rfl) rfl (lt_b rfl) ?_
        refine GoT.qr rfl rfl (QEx.ldP1 (MassData.cells m) (iAV m.Inertia) rfl ag3 (.tmp rfl) rfl) rfl (lt_b rfl) ?_
        refine GoT.q rfl (QEx.cal0 (r := (iAV r3)) [(iAV 65536), (iAV m.Inertia)] rfl Tryz.call109 (.cons .con (.cons (.tmp rfl) .nil)) (fixed_Div_ok hr3) rfl rfl) rfl (lt_b rfl) ?_
        refine GoT.q rfl (QEx.assign rfl (.tmp rfl)) rfl (lt_b rfl) ?_
        refine GoT.nil ?_
        refine Wp.seq ?_
        refine Wp.region ?_
        refine GoT.q rfl (QEx.move rfl (.tmp rfl)) rfl (lt_b rfl) ?_
        refine GoT.q rfl (QEx.move rfl (.tmp rfl)) rfl (lt_b rfl) ?_
        refine GoT.q rfl (QEx.assign rfl (.tmp rfl)) rfl (lt_b rfl) ?_
        refine GoT.q rfl (QEx.assign rfl (.tmp rfl)) rfl (lt_b rfl) ?_
        refine GoT.nil ?_
        refine Wp.ret ?_
        cases h
        exact LeafQ.ret [] (by decide) (.cons (.tmp rfl) (.cons (.tmp rfl) .nil)) rfl
      · refine Wp.skip ?_
        refine Wp.seq ?_
        refine Wp.region ?_
        refine GoT.q rfl (QEx.move rfl (.tmp rfl)) rfl (lt_b rfl) ?_
        refine GoT.q rfl (QEx.move rfl (.tmp rfl)) rfl (lt_b rfl) ?_
        refine GoT.q rfl (QEx.assign rfl (.tmp rfl)) rfl (lt_b rfl) ?_
        refine GoT.q rfl (QEx.assign rfl (.tmp rfl)) rfl (lt_b rfl) ?_
        refine GoT.nil ?_
        refine Wp.ret ?_
        cases h
        exact LeafQ.ret [] (by decide) (.cons (.tmp rfl) (.cons (.tmp rfl) .nil)) rfl
    · refine Wp.seq ?_
      refine Wp.region ?_
      refine GoT.q rfl (QEx.fldP 0 rfl uT49 rfl ts3 rfl (.tmp rfl) rfl) rfl (lt_b rfl) ?_
      refine GoT.qr rfl rfl (QEx.ldP1 (MassData.cells m) (iAV m.Mass) rfl ag3 (.tmp rfl) rfl) rfl (lt_b rfl) ?_
      refine GoT.q rfl (QEx.gtrK rfl (.tmp rfl) .con) rfl (lt_b rfl) ?_
      refine GoT.nil ?_
      refine Wp.condS h rfl (fun h => ?_) (fun h => ?_)
      · refine bind_e h fun r2 hr2 h => ?_
        refine Wp.region ?_
        refine GoT.q rfl (QEx.fldP 0 rfl uT49 rfl ts3 rfl (.tmp rfl) rfl) rfl (lt_b rfl) ?_
        refine GoT.qr rfl rfl (QEx.ldP1 (MassData.cells m) (iAV m.Mass) rfl ag3 (.tmp rfl) rfl) rfl (lt_b rfl) ?_
        refine GoT.q rfl (QEx.cal0 (r := (iAV r2)) [(iAV 65536), (iAV m.Mass)] rfl Tryz.call109 (.cons .con (.cons (.tmp rfl) .nil)) (fixed_Div_ok hr2) rfl rfl) rfl (lt_b rfl) ?_
        refine GoT.q rfl (QEx.assign rfl (.tmp rfl)) rfl (lt_b rfl) ?_
        refine GoT.nil ?_
        exact Joined1.mk r2 [] [] h (LS.to.mk (.b rfl rfl (.r rfl rfl (.b rfl rfl (.b rfl rfl .n)))) (.b rfl rfl rfl .n) rfl)
      · refine Wp.skip ?_
        exact Joined1.mk 65536 [] [] h (LS.to.mk (.b rfl rfl (.r rfl rfl (.b rfl rfl (.b rfl rfl .n)))) (.b rfl rfl rfl .n) rfl)
theorem body_SolverBody_ok {b : Body} {r : SolverBody} (h : body_SolverBody b = some r) : FnR Tryz.prog 18 [(Body.av b)] (SolverBody.av r) := by
  refine FnR.intro' (fn := Tryz.f18) (N := 22) Tryz.func18 rfl rfl (Nat.le_of_ble_eq_true rfl) [1, 2] ?_
  refine Wp.seq ?_
  refine Wp.region ?_
  refine GoT.a rfl (AEx.bx (Z := (Body.cells b)) rfl (.tmp rfl) rfl rfl rfl rfl) rfl (lt_b rfl) ?_
  refine GoT.a rfl (AEx.alZ rfl zt53 rfl rfl) rfl (lt_b rfl) ?_
  refine GoT.nil ?_
  refine bind_e h fun r1 hr1 h => ?_
  refine bind_e h fun r2 hr2 h => ?_
  refine Wp.seq ?_
  refine Wp.drawn2 (n0 := 12) [] mixed ?_
  refine GoD.qr rfl rfl (QEx.ldP (Body.cells b) (Body.av b) rfl ag29 ts29 (.tmp rfl) (le_b rfl) rfl) rfl (lt_b rfl) ?_
  refine GoD.q rfl (QEx.cal0 (r := (MassData.av r1)) [(Body.av b)] rfl Tryz.call14 (.cons (.tmp rfl) .nil) (body_MassData_ok hr1) rfl rfl) rfl (lt_b rfl) ?_
  refine GoD.q rfl (QEx.fldP 1 rfl uT29 rfl ts22 rfl (.tmp rfl) rfl) rfl (lt_b rfl) ?_
  refine GoD.qr rfl rfl (QEx.ldP1 (Body.cells b) (iAV b.Kind) rfl ag22 (.tmp rfl) rfl) rfl (lt_b rfl) ?_
  refine GoD.q rfl (QEx.fldP 15 rfl uT29 rfl ts4 rfl (.tmp rfl) rfl) rfl (lt_b rfl) ?_
  refine GoD.qr rfl rfl (QEx.ldP1 (Body.cells b) (boolAV b.FixedRotation) rfl ag4 (.tmp rfl) rfl) rfl (lt_b rfl) ?_
  refine GoD.q rfl (QEx.cal0 (r := (.tup [(iAV r2.1), (iAV r2.2)])) [(MassData.av r1), (iAV b.Kind), (boolAV b.FixedRotation)] rfl Tryz.call49 (.cons (.tmp rfl) (.cons (.tmp rfl) (.cons (.tmp rfl) .nil))) (massdata_Inverse_ok hr2) rfl rfl) rfl (lt_b rfl) ?_
  refine GoD.q rfl (QEx.move rfl (.tmp rfl)) rfl (lt_b rfl) ?_
  refine GoD.q rfl (QEx.extract rfl (.tmp rfl) rfl) rfl (lt_b rfl) ?_
  refine GoD.q rfl (QEx.extract rfl (.tmp rfl) rfl) rfl (lt_b rfl) ?_
  refine GoD.q rfl (QEx.assign rfl (.tmp rfl)) rfl (lt_b rfl) ?_
  refine GoD.q rfl (QEx.assign rfl (.tmp rfl)) rfl (lt_b rfl) ?_
  refine GoD.nil ⟨by kernel_rfl, by kernel_rfl, by kernel_rfl, by kernel_rfl, by kernel_rfl, ?_⟩
  refine GoT.nil ?_
  refine let_e h fun x3 hx3 h => ?_
  refine Wp.seq ?_
  refine Wp.region ?_
  refine GoT.q rfl (QEx.fldP 5 rfl uT29 rfl ts24 rfl (.tmp rfl) rfl) rfl (lt_b rfl) ?_
  refine GoT.qr rfl rfl (QEx.ldP (Body.cells b) (Vec.av b.Velocity) rfl ag24 ts24 (.tmp rfl) (le_b rfl) rfl) rfl (lt_b rfl) ?_
  refine GoT.q rfl (QEx.fldP 7 rfl uT29 rfl ts3 rfl (.tmp rfl) rfl) rfl (lt_b rfl) ?_
  refine GoT.qr rfl rfl (QEx.ldP1 (Body.cells b) (iAV b.AngularVelocity) rfl ag3 (.tmp rfl) rfl) rfl (lt_b rfl) ?_
  refine GoT.q rfl (QEx.move rfl (.tmp rfl)) rfl (lt_b rfl) ?_
  refine GoT.q rfl (QEx.move rfl (.tmp rfl)) rfl (lt_b rfl) ?_
  refine GoT.q rfl (QEx.as (SolverBody.av (⟨b.Velocity, b.AngularVelocity, r2.1, r2.2⟩ : SolverBody)) (QEx.buildZ rfl uT53 zt53 (by kernel_rfl) (.cons rfl (.tmp rfl) rfl rfl (le_b rfl) (.cons rfl (.tmp rfl) rfl rfl (le_b rfl) (.cons rfl (.tmp rfl) rfl rfl (le_b rfl) (.cons rfl (.tmp rfl) rfl rfl (le_b rfl) .nil)))))) rfl (lt_b rfl) ?_
  refine GoT.s rfl (AEx.sto (Z := (SolverBody.cells x3)) rfl rfl ts53 (.tmp rfl) rfl (.tmp rfl) rfl rfl (le_b rfl) (congrArg (fun (x : SolverBody) => (SolverBody.cells x)) hx3)) rfl ?_
  refine GoT.nil ?_
  refine Wp.ret ?_
  cases h
  exact LeafQ.ret [] (by decide) (.cons (.agg rfl rfl ag53 ts53) .nil) rfl
theorem vec2_Scale_ok {v_0 : Vec} {k_1 : Int} {r : Vec} (h : vec2_Scale v_0 k_1 = some r) : FnR Tryz.prog 60 [(Vec.av v_0), (iAV k_1)] (Vec.av r) := by
  refine FnR.intro' (fn := Tryz.f60) (N := 14) Tryz.func60 rfl rfl (Nat.le_of_ble_eq_true rfl) [2, 4] ?_
  refine Wp.seq ?_
  refine Wp.region ?_
  refine GoT.a rfl (AEx.bx (Z := (Vec.cells v_0)) rfl (.tmp rfl) rfl rfl rfl rfl) rfl (lt_b rfl) ?_
  refine GoT.a rfl (AEx.alZ rfl zt24 rfl rfl) rfl (lt_b rfl) ?_
  refine GoT.nil ?_
  refine bind_e h fun r1 hr1 h => ?_
  refine bind_e h fun r2 hr2 h => ?_
  refine let_e h fun x3 hx3 h => ?_
  refine Wp.seq ?_
  refine Wp.drawn2 (n0 := 10) [] mixed ?_
  refine GoD.q rfl (QEx.fldP 0 rfl uT24 rfl ts3 rfl (.tmp rfl) rfl) rfl (lt_b rfl) ?_
  refine GoD.qr rfl rfl (QEx.ldP1 (Vec.cells v_0) (iAV v_0.X) rfl ag3 (.tmp rfl) rfl) rfl (lt_b rfl) ?_
  refine GoD.q rfl (QEx.move rfl (.tmp rfl)) rfl (lt_b rfl) ?_
  refine GoD.q rfl (QEx.cal0 (r := (iAV r1)) [(iAV v_0.X), (iAV k_1)] rfl Tryz.call62 (.cons (.tmp rfl) (.cons (.tmp rfl) .nil)) (fixed_Mul_ok hr1) rfl rfl) rfl (lt_b rfl) ?_
  refine GoD.q rfl (QEx.fldP 1 rfl uT24 rfl ts3 rfl (.tmp rfl) rfl) rfl (lt_b rfl) ?_
  refine GoD.qr rfl rfl (QEx.ldP1 (Vec.cells v_0) (iAV v_0.Y) rfl ag3 (.tmp rfl) rfl) rfl (lt_b rfl) ?_
  refine GoD.q rfl (QEx.move rfl (.tmp rfl)) rfl (lt_b rfl) ?_
  refine GoD.q rfl (QEx.cal0 (r := (iAV r2)) [(iAV v_0.Y), (iAV k_1)] rfl Tryz.call62 (.cons (.tmp rfl) (.cons (.tmp rfl) .nil)) (fixed_Mul_ok hr2) rfl rfl) rfl (lt_b rfl) ?_
  refine GoD.q rfl (QEx.as (Vec.av (⟨r1, r2⟩ : Vec)) (QEx.buildZ rfl uT24 zt24 (by kernel_rfl) (.cons rfl (.tmp rfl) rfl rfl (le_b rfl) (.cons rfl (.tmp rfl) rfl rfl (le_b rfl) .nil)))) rfl (lt_b rfl) ?_
  refine GoD.s rfl (Z := (Vec.cells x3)) rfl rfl ts24 (.tmp rfl) rfl (.tmp rfl) rfl rfl (le_b rfl) (congrArg (fun (x : Vec) => (Vec.cells x)) hx3) ?_
  refine GoD.nil ⟨by kernel_rfl, by kernel_rfl, by kernel_rfl, by kernel_rfl, by kernel_rfl, ?_⟩
  refine GoT.nil ?_
  refine Wp.ret ?_
  cases h
  exact LeafQ.ret [] (by decide) (.cons (.agg rfl rfl ag24 ts24) .nil) rfl
theorem body_ClampVelocity_ok {b : Body} {r : Body} (h : body_ClampVelocity b = r) : FnR Tryz.prog 29 [(Body.av b)] (Body.av r) := by
  refine FnR.intro' (fn := Tryz.f29) (N := 20) Tryz.func29 rfl rfl (Nat.le_of_ble_eq_true rfl) [1, 2] ?_
  refine Wp.seq ?_
  refine Wp.region ?_
  refine GoT.a rfl (AEx.bx (Z := (Body.cells b)) rfl (.tmp rfl) rfl rfl rfl rfl) rfl (lt_b rfl) ?_
  refine GoT.a rfl (AEx.alZ rfl zt29 rfl rfl) rfl (lt_b rfl) ?_
  refine GoT.nil ?_
  refine let_e h fun r1 hr1 h => ?_
  refine let_e h fun x2 hx2 h => ?_
  refine Wp.seq ?_
  refine Wp.region ?_
  refine GoT.q rfl (QEx.fldP 5 rfl uT29 rfl ts24 rfl (.tmp rfl) rfl) rfl (lt_b rfl) ?_
  refine GoT.q rfl (QEx.fldP 5 rfl uT24 rfl ts3 rfl (.tmp rfl) rfl) rfl (lt_b rfl) ?_
  refine GoT.qr rfl rfl (QEx.ldP1 (Body.cells b) (iAV b.Velocity.X) rfl ag3 (.tmp rfl) rfl) rfl (lt_b rfl) ?_
  refine GoT.q rfl (QEx.cal0 (r := (iAV r1)) [(iAV b.Velocity.X), (iAV (-16777216)), (iAV 16777216)] rfl Tryz.call70 (.cons (.tmp rfl) (.cons .con (.cons .con .nil))) (fixed_Clamp_ok hr1) rfl rfl) rfl (lt_b rfl) ?_
  refine GoT.q rfl (QEx.fldP 5 rfl uT29 rfl ts24 rfl (.tmp rfl) rfl) rfl (lt_b rfl) ?_
  refine GoT.q rfl (QEx.fldP 5 rfl uT24 rfl ts3 rfl (.tmp rfl) rfl) rfl (lt_b rfl) ?_
  refine GoT.s rfl (AEx.sto (Z := (Body.cells x2)) rfl rfl ts3 (.tmp rfl) rfl (.tmp rfl) rfl rfl (le_b rfl) (congrArg (fun (x : Body) => (Body.cells x)) hx2)) rfl ?_
  refine GoT.nil ?_
  refine let_e h fun r3 hr3 h => ?_
  refine let_e h fun x4 hx4 h => ?_
  refine Wp.seq ?_
  refine Wp.region ?_
  refine GoT.q rfl (QEx.fldP 5 rfl uT29 rfl ts24 rfl (.tmp rfl) rfl) rfl (lt_b rfl) ?_
  refine GoT.q rfl (QEx.fldP 6 rfl uT24 rfl ts3 rfl (.tmp rfl) rfl) rfl (lt_b rfl) ?_
  refine GoT.qr rfl rfl (QEx.ldP1 (Body.cells x2) (iAV x2.Velocity.Y) rfl ag3 (.tmp rfl) rfl) rfl (lt_b rfl) ?_
  refine GoT.q rfl (QEx.cal0 (r := (iAV r3)) [(iAV x2.Velocity.Y), (iAV (-16777216)), (iAV 16777216)] rfl Tryz.call70 (.cons (.tmp rfl) (.cons .con (.cons .con .nil))) (fixed_Clamp_ok hr3) rfl rfl) rfl (lt_b rfl) ?_
  refine GoT.q rfl (QEx.fldP 5 rfl uT29 rfl ts24 rfl (.tmp rfl) rfl) rfl (lt_b rfl) ?_
  refine GoT.q rfl (QEx.fldP 6 rfl uT24 rfl ts3 rfl (.tmp rfl) rfl) rfl (lt_b rfl) ?_
  refine GoT.s rfl (AEx.sto (Z := (Body.cells x4)) rfl rfl ts3 (.tmp rfl) rfl (.tmp rfl) rfl rfl (le_b rfl) (congrArg (fun (x : Body) => (Body.cells x)) hx4)) rfl ?_
  refine GoT.nil ?_
  refine let_e h fun r5 hr5 h => ?_
  refine let_e h fun x6 hx6 h => ?_
  refine Wp.seq ?_
  refine Wp.region ?_
  refine GoT.q rfl (QEx.fldP 7 rfl uT29 rfl ts3 rfl (.tmp rfl) rfl) rfl (lt_b rfl) ?_
  refine GoT.qr rfl rfl (QEx.ldP1 (Body.cells x4) (iAV x4.AngularVelocity) rfl ag3 (.tmp rfl) rfl) rfl (lt_b rfl) ?_
  refine GoT.q rfl (QEx.cal0 (r := (iAV r5)) [(iAV x4.AngularVelocity), (iAV (-4194304)), (iAV 4194304)] rfl Tryz.call70 (.cons (.tmp rfl) (.cons .con (.cons .con .nil))) (fixed_Clamp_ok hr5) rfl rfl) rfl (lt_b rfl) ?_
  refine GoT.q rfl (QEx.fldP 7 rfl uT29 rfl ts3 rfl (.tmp rfl) rfl) rfl (lt_b rfl) ?_
  refine GoT.s rfl (AEx.sto (Z := (Body.cells x6)) rfl rfl ts3 (.tmp rfl) rfl (.tmp rfl) rfl rfl (le_b rfl) (congrArg (fun (x : Body) => (Body.cells x)) hx6)) rfl ?_
  refine GoT.nil ?_
  refine let_e h fun x7 hx7 h => ?_
  refine Wp.seq ?_
  refine Wp.region ?_
  refine GoT.qr rfl rfl (QEx.ldP (Body.cells x6) (Body.av x6) rfl ag29 ts29 (.tmp rfl) (le_b rfl) rfl) rfl (lt_b rfl) ?_
  refine GoT.s rfl (AEx.sto (Z := (Body.cells x7)) rfl rfl ts29 (.tmp rfl) rfl (.tmp rfl) rfl rfl (le_b rfl) (congrArg (fun (x : Body) => (Body.cells x)) hx7)) rfl ?_
  refine GoT.nil ?_
  refine Wp.ret ?_
  cases h
  exact LeafQ.ret [] (by decide) (.cons (.agg rfl rfl ag29 ts29) .nil) rfl
theorem body_awake_ok {b : Body} {r : Body} (h : body_awake b = r) : FnR Tryz.prog 64 [(Body.av b)] (Body.av r) := by
  refine FnR.intro' (fn := Tryz.f64) (N := 8) Tryz.func64 rfl rfl (Nat.le_of_ble_eq_true rfl) [1, 2] ?_
  refine Wp.seq ?_
  refine Wp.region ?_
  refine GoT.a rfl (AEx.bx (Z := (Body.cells b)) rfl (.tmp rfl) rfl rfl rfl rfl) rfl (lt_b rfl) ?_
  refine GoT.a rfl (AEx.alZ rfl zt29 rfl rfl) rfl (lt_b rfl) ?_
  refine GoT.nil ?_
  refine let_e h fun r1 hr1 h => ?_
  refine let_e h fun x2 hx2 h => ?_
  refine Wp.seq ?_
  refine Wp.region ?_
  refine GoT.qr rfl rfl (QEx.ldP (Body.cells b) (Body.av b) rfl ag29 ts29 (.tmp rfl) (le_b rfl) rfl) rfl (lt_b rfl) ?_
  refine GoT.q rfl (QEx.cal0 (r := (Body.av r1)) [(Body.av b)] rfl Tryz.call29 (.cons (.tmp rfl) .nil) (body_ClampVelocity_ok hr1) rfl rfl) rfl (lt_b rfl) ?_
  refine GoT.s rfl (AEx.sto (Z := (Body.cells x2)) rfl rfl ts29 (.tmp rfl) rfl (.tmp rfl) rfl rfl (le_b rfl) (congrArg (fun (x : Body) => (Body.cells x)) hx2)) rfl ?_
  refine GoT.nil ?_
  refine let_e h fun x3 hx3 h => ?_
  refine Wp.seq ?_
  refine Wp.region ?_
  refine GoT.q rfl (QEx.fldP 17 rfl uT29 rfl ts4 rfl (.tmp rfl) rfl) rfl (lt_b rfl) ?_
  refine GoT.s rfl (AEx.sto (Z := (Body.cells x3)) rfl rfl ts4 (.tmp rfl) rfl .con rfl rfl (le_b rfl) (congrArg (fun (x : Body) => (Body.cells x)) hx3)) rfl ?_
  refine GoT.nil ?_
  refine let_e h fun x4 hx4 h => ?_
  refine Wp.seq ?_
  refine Wp.region ?_
  refine GoT.q rfl (QEx.fldP 18 rfl uT29 rfl ts3 rfl (.tmp rfl) rfl) rfl (lt_b rfl) ?_
  refine GoT.s rfl (AEx.sto (Z := (Body.cells x4)) rfl rfl ts3 (.tmp rfl) rfl .con rfl rfl (le_b rfl) (congrArg (fun (x : Body) => (Body.cells x)) hx4)) rfl ?_
  refine GoT.nil ?_
  refine let_e h fun x5 hx5 h => ?_
  refine Wp.seq ?_
  refine Wp.region ?_
  refine GoT.qr rfl rfl (QEx.ldP (Body.cells x4) (Body.av x4) rfl ag29 ts29 (.tmp rfl) (le_b rfl) rfl) rfl (lt_b rfl) ?_
  refine GoT.s rfl (AEx.sto (Z := (Body.cells x5)) rfl rfl ts29 (.tmp rfl) rfl (.tmp rfl) rfl rfl (le_b rfl) (congrArg (fun (x : Body) => (Body.cells x)) hx5)) rfl ?_
  refine GoT.nil ?_
  refine Wp.ret ?_
  cases h
  exact LeafQ.ret [] (by decide) (.cons (.agg rfl rfl ag29 ts29) .nil) rfl
theorem body_ApplyImpulse_ok {b : Body} {point : Vec} {impulse : Vec} {r : Body} (h : body_ApplyImpulse b point impulse = some r) : FnR Tryz.prog 25 [(Body.av b), (Vec.av point), (Vec.av impulse)] (Body.av r) := by
  refine FnR.intro' (fn := Tryz.f25) (N := 39) Tryz.func25 rfl rfl (Nat.le_of_ble_eq_true rfl) [3, 4, 5, 6, 7, 8] ?_
  refine Wp.seq ?_
  refine Wp.region ?_
  refine GoT.a rfl (AEx.bx (Z := (Body.cells b)) rfl (.tmp rfl) rfl rfl rfl rfl) rfl (lt_b rfl) ?_
  refine GoT.a rfl (AEx.bx (Z := (Vec.cells point)) rfl (.tmp rfl) rfl rfl rfl rfl) rfl (lt_b rfl) ?_
  refine GoT.a rfl (AEx.bx (Z := (Vec.cells impulse)) rfl (.tmp rfl) rfl rfl rfl rfl) rfl (lt_b rfl) ?_
  refine GoT.a rfl (AEx.alZ rfl zt29 rfl rfl) rfl (lt_b rfl) ?_
  refine GoT.nil ?_
  refine Wp.seq ?_
  refine Wp.seq ?_
  refine Wp.region ?_
  refine GoT.q rfl (QEx.fldP 1 rfl uT29 rfl ts22 rfl (.tmp rfl) rfl) rfl (lt_b rfl) ?_
  refine GoT.qr rfl rfl (QEx.ldP1 (Body.cells b) (iAV b.Kind) rfl ag22 (.tmp rfl) rfl) rfl (lt_b rfl) ?_
  refine GoT.q rfl (QEx.neqK rfl (.tmp rfl) .con) rfl (lt_b rfl) ?_
  refine GoT.nil ?_
  refine Wp.condS h rfl (fun h => ?_) (fun h => ?_)
  · refine let_e h fun x1 hx1 h => ?_
    refine Wp.seq ?_
    refine Wp.region ?_
    refine GoT.qr rfl rfl (QEx.ldP (Body.cells b) (Body.av b) rfl ag29 ts29 (.tmp rfl) (le_b rfl) rfl) rfl (lt_b rfl) ?_
    refine GoT.s rfl (AEx.sto (Z := (Body.cells x1)) rfl rfl ts29 (.tmp rfl) rfl (.tmp rfl) rfl rfl (le_b rfl) (congrArg (fun (x : Body) => (Body.cells x)) hx1)) rfl ?_
    refine GoT.nil ?_
    refine Wp.ret ?_
    cases h
    exact LeafQ.ret [] (by decide) (.cons (.agg rfl rfl ag29 ts29) .nil) rfl
  · refine Wp.skip ?_
    refine bind_e h fun r2 hr2 h => ?_
    refine let_e h fun x3 hx3 h => ?_
    refine Wp.seq ?_
    refine Wp.region ?_
    refine GoT.qr rfl rfl (QEx.ldP (Body.cells b) (Body.av b) rfl ag29 ts29 (.tmp rfl) (le_b rfl) rfl) rfl (lt_b rfl) ?_
    refine GoT.q rfl (QEx.cal0 (r := (SolverBody.av r2)) [(Body.av b)] rfl Tryz.call18 (.cons (.tmp rfl) .nil) (body_SolverBody_ok hr2) rfl rfl) rfl (lt_b rfl) ?_
    refine GoT.a rfl (AEx.alZ rfl zt53 rfl rfl) rfl (lt_b rfl) ?_
    refine GoT.s rfl (AEx.sto (Z := (SolverBody.cells x3)) rfl rfl ts53 (.tmp rfl) rfl (.tmp rfl) rfl rfl (le_b rfl) (congrArg (fun (x : SolverBody) => (SolverBody.cells x)) hx3)) rfl ?_
    refine GoT.nil ?_
    refine bind_e h fun r4 hr4 h => ?_
    refine let_e h fun r5 hr5 h => ?_
    refine let_e h fun x6 hx6 h => ?_
    refine Wp.seq ?_
    refine Wp.drawn2 (n0 := 6) [] mixed ?_
    refine GoD.qr rfl rfl (QEx.ldP (Vec.cells point) (Vec.av point) rfl ag24 ts24 (.tmp rfl) (le_b rfl) rfl) rfl (lt_b rfl) ?_
    refine GoD.qr rfl rfl (QEx.ldP (Body.cells b) (Body.av b) rfl ag29 ts29 (.tmp rfl) (le_b rfl) rfl) rfl (lt_b rfl) ?_
    refine GoD.q rfl (QEx.cal0 (r := (Vec.av r4)) [(Body.av b)] rfl Tryz.call16 (.cons (.tmp rfl) .nil) (body_WorldCenter_ok hr4) rfl rfl) rfl (lt_b rfl) ?_
    refine GoD.q rfl (QEx.cal0 (r := (Vec.av r5)) [(Vec.av point), (Vec.av r4)] rfl Tryz.call51 (.cons (.tmp rfl) (.cons (.tmp rfl) .nil)) (vec2_Sub_ok hr5) rfl rfl) rfl (lt_b rfl) ?_
    refine GoD.al rfl rfl zt24 rfl (lt_b rfl) ?_
    refine GoD.s rfl (Z := (Vec.cells x6)) rfl rfl ts24 (.tmp rfl) rfl (.tmp rfl) rfl rfl (le_b rfl) (congrArg (fun (x : Vec) => (Vec.cells x)) hx6) ?_
    refine GoD.nil ⟨by kernel_rfl, by kernel_rfl, by kernel_rfl, by kernel_rfl, by kernel_rfl, ?_⟩
    refine GoT.nil ?_
    refine bind_e h fun r7 hr7 h => ?_
    refine let_e h fun r8 hr8 h => ?_
    refine let_e h fun x9 hx9 h => ?_
    refine Wp.seq ?_
    refine Wp.drawn2 (n0 := 9) [] mixed ?_
    refine GoD.q rfl (QEx.fldP 5 rfl uT29 rfl ts24 rfl (.tmp rfl) rfl) rfl (lt_b rfl) ?_
    refine GoD.qr rfl rfl (QEx.ldP (Body.cells b) (Vec.av b.Velocity) rfl ag24 ts24 (.tmp rfl) (le_b rfl) rfl) rfl (lt_b rfl) ?_
    refine GoD.qr rfl rfl (QEx.ldP (Vec.cells impulse) (Vec.av impulse) rfl ag24 ts24 (.tmp rfl) (le_b rfl) rfl) rfl (lt_b rfl) ?_
    refine GoD.q rfl (QEx.fldP 3 rfl uT53 rfl ts3 rfl (.tmp rfl) rfl) rfl (lt_b rfl) ?_
    refine GoD.qr rfl rfl (QEx.ldP1 (SolverBody.cells x3) (iAV x3.InvMass) rfl ag3 (.tmp rfl) rfl) rfl (lt_b rfl) ?_
    refine GoD.q rfl (QEx.cal0 (r := (Vec.av r7)) [(Vec.av impulse), (iAV x3.InvMass)] rfl Tryz.call60 (.cons (.tmp rfl) (.cons (.tmp rfl) .nil)) (vec2_Scale_ok hr7) rfl rfl) rfl (lt_b rfl) ?_
    refine GoD.q rfl (QEx.cal0 (r := (Vec.av r8)) [(Vec.av b.Velocity), (Vec.av r7)] rfl Tryz.call52 (.cons (.tmp rfl) (.cons (.tmp rfl) .nil)) (vec2_Add_ok hr8) rfl rfl) rfl (lt_b rfl) ?_
    refine GoD.q rfl (QEx.fldP 5 rfl uT29 rfl ts24 rfl (.tmp rfl) rfl) rfl (lt_b rfl) ?_
    refine GoD.s rfl (Z := (Body.cells x9)) rfl rfl ts24 (.tmp rfl) rfl (.tmp rfl) rfl rfl (le_b rfl) (congrArg (fun (x : Body) => (Body.cells x)) hx9) ?_
    refine GoD.nil ⟨by kernel_rfl, by kernel_rfl, by kernel_rfl, by kernel_rfl, by kernel_rfl, ?_⟩
    refine GoT.nil ?_
    refine bind_e h fun r10 hr10 h => ?_
    refine bind_e h fun r11 hr11 h => ?_
    refine let_e h fun r12 hr12 h => ?_
    refine let_e h fun x13 hx13 h => ?_
    refine Wp.seq ?_
    refine Wp.drawn2 (n0 := 11) [] mixed ?_
    refine GoD.q rfl (QEx.fldP 7 rfl uT29 rfl ts3 rfl (.tmp rfl) rfl) rfl (lt_b rfl) ?_
    refine GoD.qr rfl rfl (QEx.ldP1 (Body.cells x9) (iAV x9.AngularVelocity) rfl ag3 (.tmp rfl) rfl) rfl (lt_b rfl) ?_
    refine GoD.qr rfl rfl (QEx.ldP (Vec.cells x6) (Vec.av x6) rfl ag24 ts24 (.tmp rfl) (le_b rfl) rfl) rfl (lt_b rfl) ?_
    refine GoD.qr rfl rfl (QEx.ldP (Vec.cells impulse) (Vec.av impulse) rfl ag24 ts24 (.tmp rfl) (le_b rfl) rfl) rfl (lt_b rfl) ?_
    refine GoD.q rfl (QEx.cal0 (r := (iAV r10)) [(Vec.av x6), (Vec.av impulse)] rfl Tryz.call63 (.cons (.tmp rfl) (.cons (.tmp rfl) .nil)) (vec2_Cross_ok hr10) rfl rfl) rfl (lt_b rfl) ?_
    refine GoD.q rfl (QEx.fldP 4 rfl uT53 rfl ts3 rfl (.tmp rfl) rfl) rfl (lt_b rfl) ?_
    refine GoD.qr rfl rfl (QEx.ldP1 (SolverBody.cells x3) (iAV x3.InvInertia) rfl ag3 (.tmp rfl) rfl) rfl (lt_b rfl) ?_
    refine GoD.q rfl (QEx.cal0 (r := (iAV r11)) [(iAV r10), (iAV x3.InvInertia)] rfl Tryz.call62 (.cons (.tmp rfl) (.cons (.tmp rfl) .nil)) (fixed_Mul_ok hr11) rfl rfl) rfl (lt_b rfl) ?_
    refine GoD.q rfl (QEx.cal0 (r := (iAV r12)) [(iAV x9.AngularVelocity), (iAV r11)] rfl Tryz.call61 (.cons (.tmp rfl) (.cons (.tmp rfl) .nil)) (fixed_Add_ok hr12) rfl rfl) rfl (lt_b rfl) ?_
    refine GoD.q rfl (QEx.fldP 7 rfl uT29 rfl ts3 rfl (.tmp rfl) rfl) rfl (lt_b rfl) ?_
    refine GoD.s rfl (Z := (Body.cells x13)) rfl rfl ts3 (.tmp rfl) rfl (.tmp rfl) rfl rfl (le_b rfl) (congrArg (fun (x : Body) => (Body.cells x)) hx13) ?_
    refine GoD.nil ⟨by kernel_rfl, by kernel_rfl, by kernel_rfl, by kernel_rfl, by kernel_rfl, ?_⟩
    refine GoT.nil ?_
    refine let_e h fun r14 hr14 h => ?_
    refine let_e h fun x15 hx15 h => ?_
    refine Wp.seq ?_
    refine Wp.region ?_
    refine GoT.qr rfl rfl (QEx.ldP (Body.cells x13) (Body.av x13) rfl ag29 ts29 (.tmp rfl) (le_b rfl) rfl) rfl (lt_b rfl) ?_
    refine GoT.q rfl (QEx.cal0 (r := (Body.av r14)) [(Body.av x13)] rfl Tryz.call64 (.cons (.tmp rfl) .nil) (body_awake_ok hr14) rfl rfl) rfl (lt_b rfl) ?_
    refine GoT.s rfl (AEx.sto (Z := (Body.cells x15)) rfl rfl ts29 (.tmp rfl) rfl (.tmp rfl) rfl rfl (le_b rfl) (congrArg (fun (x : Body) => (Body.cells x)) hx15)) rfl ?_
    refine GoT.nil ?_
    refine Wp.ret ?_
    cases h
    exact LeafQ.ret [] (by decide) (.cons (.agg rfl rfl ag29 ts29) .nil) rfl
theorem shape_Vertices_ok {s : Shape} {p : Transform} {r : List Vec} (h : shape_Vertices s p = some r) : FnR Tryz.prog 93 [(Shape.av s), (Transform.av p)] (slT 0 0 2 Vec.av r) := by
  refine FnR.intro' (fn := Tryz.f93) (N := 26) Tryz.func93 rfl rfl (Nat.le_of_ble_eq_true rfl) [2, 3, 4, 5, 7, 18, 22, 23, 25] ?_
  refine Wp.seq ?_
  refine Wp.region ?_
  refine GoT.a rfl (AEx.bx (Z := (Shape.cells s)) rfl (.tmp rfl) rfl rfl rfl rfl) rfl (lt_b rfl) ?_
  refine GoT.a rfl (AEx.bx (Z := (Transform.cells p)) rfl (.tmp rfl) rfl rfl rfl rfl) rfl (lt_b rfl) ?_
  refine GoT.q rfl (QEx.as (slT 4 0 2 Vec.av ([] : List Vec)) (QEx.assign rfl (.nil))) rfl (lt_b rfl) ?_
  refine GoT.nil ?_
  refine Wp.seq ?_
  refine bind_e h fun r1 hr1 h => ?_
  refine Wp.seq ?_
  refine Wp.region ?_
  refine GoT.qr rfl rfl (QEx.ldP (Shape.cells s) (Shape.av s) rfl ag33 ts33 (.tmp rfl) (le_b rfl) rfl) rfl (lt_b rfl) ?_
  refine GoT.q rfl (QEx.cal0 (r := (iAV r1)) [(Shape.av s)] rfl Tryz.call37 (.cons (.tmp rfl) .nil) (shape_Validate_ok hr1) rfl rfl) rfl (lt_b rfl) ?_
  refine GoT.q rfl (QEx.neqK rfl (.tmp rfl) .con) rfl (lt_b rfl) ?_
  refine GoT.nil ?_
  refine Wp.condS h rfl (fun h => ?_) (fun h => ?_)
  · refine Wp.seq ?_
    refine Wp.region ?_
    refine GoT.q rfl (QEx.as (slT 4 0 2 Vec.av ([] : List Vec)) (QEx.assign rfl (.nil))) rfl (lt_b rfl) ?_
    refine GoT.nil ?_
    refine Wp.ret ?_
    cases h
    exact LeafQ.ret [(4, 0)] (by decide) (.cons (.tmp rfl) .nil) rfl
  · refine Wp.skip ?_
    refine Wp.seq ?_
    refine Wp.region ?_
    refine GoT.q rfl (QEx.as (slT 5 0 2 Vec.av ([] : List Vec)) (QEx.assign rfl (.nil))) rfl (lt_b rfl) ?_
    refine GoT.nil ?_
    refine Wp.join1 (fun v2 => ⟨[(5, (slT 5 0 2 Vec.av v2))], [], [2, 3, 4, 7, 18, 22, 23, 25]⟩) (fun v2 => shape_Vertices_j2 v2 = some r) ?_ ?_
    · intro v2 h
      refine Wp.seq ?_
      refine Wp.region ?_
      refine GoT.q rfl (QEx.move rfl (.tmp rfl)) rfl (lt_b rfl) ?_
      refine GoT.q rfl (QEx.assign rfl (.tmp rfl)) rfl (lt_b rfl) ?_
      refine GoT.nil ?_
      refine Wp.ret ?_
      cases h
      exact LeafQ.ret [(5, 0)] (by decide) (.cons (.tmp rfl) .nil) rfl
    · refine Wp.seq ?_
      refine Wp.region ?_
      refine GoT.q rfl (QEx.fldP 2 rfl uT33 rfl ts31 rfl (.tmp rfl) rfl) rfl (lt_b rfl) ?_
      refine GoT.qr rfl rfl (QEx.ldP1 (Shape.cells s) ((slAV 2 Vec.av) s.Vertices) rfl ag31 (.tmp rfl) rfl) rfl (lt_b rfl) ?_
      refine GoT.q rfl (QEx.lenL rfl ⟨_, uT31⟩ (.tmp rfl)) rfl (lt_b rfl) ?_
      refine GoT.q rfl (QEx.as (iAV 0) (QEx.move rfl .con)) rfl (lt_b rfl) ?_
      refine GoT.nil ?_
      refine Wp.block ?_
      refine Wp.loop2 (fun v3 v4 => ⟨[(3, (.ptr 3 0)), (5, (slT 5 0 2 Vec.av v3)), (12, ((slAV 2 Vec.av) s.Vertices)), (13, (iAV ((s.Vertices).length : Int))), (14, (iAV v4))], [(3, .cells (Transform.cells p))], [2, 4, 7, 18, 22, 23, 25]⟩) (fun n v3 v4 => shape_Vertices_l1 s p shape_Vertices_j2 n v3 v4 = some r) fuel ([] : List Vec) 0 [2] [] h (LS.to.mk (.r rfl rfl (.r rfl rfl (.b rfl rfl (.b rfl rfl (.b rfl rfl .n))))) (.b rfl rfl rfl .n) rfl) ?_
      rintro (_ | n2) v3 v4 h
      · exact none_e h
      rw [shape_Vertices_l1] at h
      refine Wp.seq ?_
      refine Wp.region ?_
      refine GoT.q rfl (QEx.lssK rfl (.tmp rfl) (.tmp rfl)) rfl (lt_b rfl) ?_
      refine GoT.nil ?_
      refine Wp.seq ?_
      refine Wp.condS h rfl (fun h => ?_) (fun h => ?_)
      · refine Wp.skip ?_
        refine Wp.seq ?_
        refine Wp.block ?_
        refine chk_e h fun c5 h => ?_
        refine let_e h fun x6 hx6 h => ?_
        refine Wp.seq ?_
        refine Wp.region ?_
        refine GoT.q rfl (QEx.as (.cptr (Vec.cells (ix s.Vertices v4))) (QEx.idxL (E := Vec.av) rfl et31 (.tmp rfl) (.tmp rfl) c5)) rfl (lt_b rfl) ?_
        refine GoT.q rfl (QEx.ldC (x := (Vec.av (ix s.Vertices v4))) rfl ag24 ts24 (.tmp rfl) (.inl ⟨rfl, rfl, rfl⟩)) rfl (lt_b rfl) ?_
        refine GoT.a rfl (AEx.alZ rfl zt24 rfl rfl) rfl (lt_b rfl) ?_
        refine GoT.s rfl (AEx.sto (Z := (Vec.cells x6)) rfl rfl ts24 (.tmp rfl) rfl (.tmp rfl) rfl rfl (le_b rfl) (congrArg (fun (x : Vec) => (Vec.cells x)) hx6)) rfl ?_
        refine GoT.nil ?_
        refine bind_e h fun r7 hr7 h => ?_
        refine chk_e h fun c8 h => ?_
        refine let_e h fun x9 hx9 h => ?_
        refine Wp.region ?_
        refine GoT.q rfl (QEx.move rfl (.tmp rfl)) rfl (lt_b rfl) ?_
        refine GoT.qr rfl rfl (QEx.ldP (Transform.cells p) (Transform.av p) rfl ag26 ts26 (.tmp rfl) (le_b rfl) rfl) rfl (lt_b rfl) ?_
        refine GoT.qr rfl rfl (QEx.ldP (Vec.cells x6) (Vec.av x6) rfl ag24 ts24 (.tmp rfl) (le_b rfl) rfl) rfl (lt_b rfl) ?_
        refine GoT.q rfl (QEx.cal0 (r := (Vec.av r7)) [(Transform.av p), (Vec.av x6)] rfl Tryz.call47 (.cons (.tmp rfl) (.cons (.tmp rfl) .nil)) (transform_Apply_ok hr7) rfl rfl) rfl (lt_b rfl) ?_
        refine GoT.q rfl (QEx.as (slT 22 0 2 Vec.av ([r7] : List Vec)) (QEx.buildSlice rfl et31 (.cons (.tmp rfl) rfl rfl rfl .nil) rfl (by decide))) rfl (lt_b rfl) ?_
        refine GoT.a rfl (AEx.appL (E := Vec.av) rfl et31 (.tmp rfl) (.tmp rfl) rfl c8 rfl rfl hx9 (by decide)) rfl (lt_b rfl) ?_
        refine GoT.q rfl (QEx.assign rfl (.tmp rfl)) rfl (lt_b rfl) ?_
        refine GoT.nil ?_
        refine let_e h fun x10 hx10 h => ?_
        refine Wp.region ?_
        refine GoT.q rfl (QEx.addK rfl (.tmp rfl) .con) rfl (lt_b rfl) ?_
        refine GoT.q rfl (QEx.eq (QEx.move rfl (.tmp rfl)) (congrArg iAV hx10)) rfl (lt_b rfl) ?_
        refine GoT.nil ?_
        exact Round2.mk x9 x10 [7] [(23, 5)] h (LS.to.mk (.r rfl rfl (.r rfl rfl (.b rfl rfl (.b rfl rfl (.b rfl rfl .n))))) (.b rfl rfl rfl .n) rfl)
      · refine Wp.exit ?_
        exact Joined1.mk v3 [3] [] h (LS.to.mk (.r rfl rfl .n) .n rfl)
theorem aabb_saturate_ok {v_0 : Vec} {r : Vec} (h : aabb_saturate v_0 = r) : FnR Tryz.prog 136 [(Vec.av v_0)] (Vec.av r) := by
  refine FnR.intro' (fn := Tryz.f136) (N := 10) Tryz.func136 rfl rfl (Nat.le_of_ble_eq_true rfl) [1, 2] ?_
  refine Wp.seq ?_
  refine Wp.region ?_
  refine GoT.a rfl (AEx.bx (Z := (Vec.cells v_0)) rfl (.tmp rfl) rfl rfl rfl rfl) rfl (lt_b rfl) ?_
  refine GoT.a rfl (AEx.alZ rfl zt24 rfl rfl) rfl (lt_b rfl) ?_
  refine GoT.nil ?_
  refine let_e h fun r1 hr1 h => ?_
  refine let_e h fun r2 hr2 h => ?_
  refine let_e h fun x3 hx3 h => ?_
  refine Wp.seq ?_
  refine Wp.drawn2 (n0 := 8) [] mixed ?_
  refine GoD.q rfl (QEx.fldP 0 rfl uT24 rfl ts3 rfl (.tmp rfl) rfl) rfl (lt_b rfl) ?_
  refine GoD.qr rfl rfl (QEx.ldP1 (Vec.cells v_0) (iAV v_0.X) rfl ag3 (.tmp rfl) rfl) rfl (lt_b rfl) ?_
  refine GoD.q rfl (QEx.cal0 (r := (iAV r1)) [(iAV v_0.X)] rfl Tryz.call117 (.cons (.tmp rfl) .nil) (fixed_Saturate_ok hr1) rfl rfl) rfl (lt_b rfl) ?_
  refine GoD.q rfl (QEx.fldP 1 rfl uT24 rfl ts3 rfl (.tmp rfl) rfl) rfl (lt_b rfl) ?_
  refine GoD.qr rfl rfl (QEx.ldP1 (Vec.cells v_0) (iAV v_0.Y) rfl ag3 (.tmp rfl) rfl) rfl (lt_b rfl) ?_
  refine GoD.q rfl (QEx.cal0 (r := (iAV r2)) [(iAV v_0.Y)] rfl Tryz.call117 (.cons (.tmp rfl) .nil) (fixed_Saturate_ok hr2) rfl rfl) rfl (lt_b rfl) ?_
  refine GoD.q rfl (QEx.as (Vec.av (⟨r1, r2⟩ : Vec)) (QEx.buildZ rfl uT24 zt24 (by kernel_rfl) (.cons rfl (.tmp rfl) rfl rfl (le_b rfl) (.cons rfl (.tmp rfl) rfl rfl (le_b rfl) .nil)))) rfl (lt_b rfl) ?_
  refine GoD.s rfl (Z := (Vec.cells x3)) rfl rfl ts24 (.tmp rfl) rfl (.tmp rfl) rfl rfl (le_b rfl) (congrArg (fun (x : Vec) => (Vec.cells x)) hx3) ?_
  refine GoD.nil ⟨by kernel_rfl, by kernel_rfl, by kernel_rfl, by kernel_rfl, by kernel_rfl, ?_⟩
  refine GoT.nil ?_
  refine Wp.ret ?_
  cases h
  exact LeafQ.ret [] (by decide) (.cons (.agg rfl rfl ag24 ts24) .nil) rfl
theorem aabb_lower_ok {a : Vec} {b : Vec} {r : Vec} (h : aabb_lower a b = r) : FnR Tryz.prog 95 [(Vec.av a), (Vec.av b)] (Vec.av r) := by
  refine FnR.intro' (fn := Tryz.f95) (N := 16) Tryz.func95 rfl rfl (Nat.le_of_ble_eq_true rfl) [2, 3, 4] ?_
  refine Wp.seq ?_
  refine Wp.region ?_
  refine GoT.a rfl (AEx.bx (Z := (Vec.cells a)) rfl (.tmp rfl) rfl rfl rfl rfl) rfl (lt_b rfl) ?_
  refine GoT.a rfl (AEx.bx (Z := (Vec.cells b)) rfl (.tmp rfl) rfl rfl rfl rfl) rfl (lt_b rfl) ?_
  refine GoT.a rfl (AEx.alZ rfl zt24 rfl rfl) rfl (lt_b rfl) ?_
  refine GoT.nil ?_
  refine let_e h fun x1 hx1 h => ?_
  refine Wp.seq ?_
  refine Wp.region ?_
  refine GoT.q rfl (QEx.fldP 0 rfl uT24 rfl ts3 rfl (.tmp rfl) rfl) rfl (lt_b rfl) ?_
  refine GoT.qr rfl rfl (QEx.ldP1 (Vec.cells a) (iAV a.X) rfl ag3 (.tmp rfl) rfl) rfl (lt_b rfl) ?_
  refine GoT.q rfl (QEx.fldP 0 rfl uT24 rfl ts3 rfl (.tmp rfl) rfl) rfl (lt_b rfl) ?_
  refine GoT.qr rfl rfl (QEx.ldP1 (Vec.cells b) (iAV b.X) rfl ag3 (.tmp rfl) rfl) rfl (lt_b rfl) ?_
  refine GoT.q rfl (QEx.minK rfl (.tmp rfl) (.tmp rfl)) rfl (lt_b rfl) ?_
  refine GoT.q rfl (QEx.fldP 1 rfl uT24 rfl ts3 rfl (.tmp rfl) rfl) rfl (lt_b rfl) ?_
  refine GoT.qr rfl rfl (QEx.ldP1 (Vec.cells a) (iAV a.Y) rfl ag3 (.tmp rfl) rfl) rfl (lt_b rfl) ?_
  refine GoT.q rfl (QEx.fldP 1 rfl uT24 rfl ts3 rfl (.tmp rfl) rfl) rfl (lt_b rfl) ?_
  refine GoT.qr rfl rfl (QEx.ldP1 (Vec.cells b) (iAV b.Y) rfl ag3 (.tmp rfl) rfl) rfl (lt_b rfl) ?_
  refine GoT.q rfl (QEx.minK rfl (.tmp rfl) (.tmp rfl)) rfl (lt_b rfl) ?_
  refine GoT.q rfl (QEx.as (Vec.av (⟨(min a.X b.X), (min a.Y b.Y)⟩ : Vec)) (QEx.buildZ rfl uT24 zt24 (by kernel_rfl) (.cons rfl (.tmp rfl) rfl rfl (le_b rfl) (.cons rfl (.tmp rfl) rfl rfl (le_b rfl) .nil)))) rfl (lt_b rfl) ?_
  refine GoT.s rfl (AEx.sto (Z := (Vec.cells x1)) rfl rfl ts24 (.tmp rfl) rfl (.tmp rfl) rfl rfl (le_b rfl) (congrArg (fun (x : Vec) => (Vec.cells x)) hx1)) rfl ?_
  refine GoT.nil ?_
  refine Wp.ret ?_
  cases h
  exact LeafQ.ret [] (by decide) (.cons (.agg rfl rfl ag24 ts24) .nil) rfl
theorem aabb_upper_ok {a : Vec} {b : Vec} {r : Vec} (h : aabb_upper a b = r) : FnR Tryz.prog 96 [(Vec.av a), (Vec.av b)] (Vec.av r) := by
  refine FnR.intro' (fn := Tryz.f96) (N := 16) Tryz.func96 rfl rfl (Nat.le_of_ble_eq_true rfl) [2, 3, 4] ?_
  refine Wp.seq ?_
  refine Wp.region ?_
  refine GoT.a rfl (AEx.bx (Z := (Vec.cells a)) rfl (.tmp rfl) rfl rfl rfl rfl) rfl (lt_b rfl) ?_
  refine GoT.a rfl (AEx.bx (Z := (Vec.cells b)) rfl (.tmp rfl) rfl rfl rfl rfl) rfl (lt_b rfl) ?_
  refine GoT.a rfl (AEx.alZ rfl zt24 rfl rfl) rfl (lt_b rfl) ?_
  refine GoT.nil ?_
  refine let_e h fun x1 hx1 h => ?_
  refine Wp.seq ?_
  refine Wp.region ?_
  refine GoT.q rfl (QEx.fldP 0 rfl uT24 rfl ts3 rfl (.tmp rfl) rfl) rfl (lt_b rfl) ?_
  refine GoT.qr rfl rfl (QEx.ldP1 (Vec.cells a) (iAV a.X) rfl ag3 (.tmp rfl) rfl) rfl (lt_b rfl) ?_
  refine GoT.q rfl (QEx.fldP 0 rfl uT24 rfl ts3 rfl (.tmp rfl) rfl) rfl (lt_b rfl) ?_
  refine GoT.qr rfl rfl (QEx.ldP1 (Vec.cells b) (iAV b.X) rfl ag3 (.tmp rfl) rfl) rfl (lt_b rfl) ?_
  refine GoT.q rfl (QEx.maxK rfl (.tmp rfl) (.tmp rfl)) rfl (lt_b rfl) ?_
  refine GoT.q rfl (QEx.fldP 1 rfl uT24 rfl ts3 rfl (.tmp rfl) rfl) rfl (lt_b rfl) ?_
  refine GoT.qr rfl rfl (QEx.ldP1 (Vec.cells a) (iAV a.Y) rfl ag3 (.tmp rfl) rfl) rfl (lt_b rfl) ?_
  refine GoT.q rfl (QEx.fldP 1 rfl uT24 rfl ts3 rfl (.tmp rfl) rfl) rfl (lt_b rfl) ?_
  refine GoT.qr rfl rfl (QEx.ldP1 (Vec.cells b) (iAV b.Y) rfl ag3 (.tmp rfl) rfl) rfl (lt_b rfl) ?_
  refine GoT.q rfl (QEx.maxK rfl (.tmp rfl) (.tmp rfl)) rfl (lt_b rfl) ?_
  refine GoT.q rfl (QEx.as (Vec.av (⟨(max a.X b.X), (max a.Y b.Y)⟩ : Vec)) (QEx.buildZ rfl uT24 zt24 (by kernel_rfl) (.cons rfl (.tmp rfl) rfl rfl (le_b rfl) (.cons rfl (.tmp rfl) rfl rfl (le_b rfl) .nil)))) rfl (lt_b rfl) ?_
  refine GoT.s rfl (AEx.sto (Z := (Vec.cells x1)) rfl rfl ts24 (.tmp rfl) rfl (.tmp rfl) rfl rfl (le_b rfl) (congrArg (fun (x : Vec) => (Vec.cells x)) hx1)) rfl ?_
  refine GoT.nil ?_
  refine Wp.ret ?_
  cases h
  exact LeafQ.ret [] (by decide) (.cons (.agg rfl rfl ag24 ts24) .nil) rfl
theorem aabb_FromPoints_ok {points : List Vec} {r : AABB × Bool} (h : aabb_FromPoints points = some r) : FnR Tryz.prog 92 [((slAV 2 Vec.av) points)] (.tup [(AABB.av r.1), (boolAV r.2)]) := by
  refine FnR.intro' (fn := Tryz.f92) (N := 40) Tryz.func92 rfl rfl (Nat.le_of_ble_eq_true rfl) [2, 4, 5, 7, 8, 12, 19, 20] ?_
  refine Wp.seq ?_
  refine Wp.region ?_
  refine GoT.a rfl (AEx.alZ rfl zt45 rfl rfl) rfl (lt_b rfl) ?_
  refine GoT.q rfl (QEx.as (boolAV false) (QEx.assign rfl .con)) rfl (lt_b rfl) ?_
  refine GoT.nil ?_
  refine Wp.seq ?_
  refine Wp.seq ?_
  refine Wp.region ?_
  refine GoT.q rfl (QEx.move rfl (.tmp rfl)) rfl (lt_b rfl) ?_
  refine GoT.q rfl (QEx.lenL rfl ⟨_, uT31⟩ (.tmp rfl)) rfl (lt_b rfl) ?_
  refine GoT.q rfl (QEx.eqlK rfl (.tmp rfl) .con) rfl (lt_b rfl) ?_
  refine GoT.nil ?_
  refine Wp.condS h rfl (fun h => ?_) (fun h => ?_)
  · refine let_e h fun x1 hx1 h => ?_
    refine Wp.seq ?_
    refine Wp.region ?_
    refine GoT.q rfl (QEx.as (AABB.av (⟨Vec.zero, Vec.zero⟩ : AABB)) (QEx.buildZ rfl uT45 zt45 (by kernel_rfl) .nil)) rfl (lt_b rfl) ?_
    refine GoT.s rfl (AEx.sto (Z := (AABB.cells x1)) rfl rfl ts45 (.tmp rfl) rfl (.tmp rfl) rfl rfl (le_b rfl) (congrArg (fun (x : AABB) => (AABB.cells x)) hx1)) rfl ?_
    refine GoT.q rfl (QEx.as (boolAV false) (QEx.assign rfl .con)) rfl (lt_b rfl) ?_
    refine GoT.nil ?_
    refine Wp.ret ?_
    cases h
    exact LeafQ.ret [] (by decide) (.cons (.agg rfl rfl ag45 ts45) (.cons (.tmp rfl) .nil)) rfl
  · refine Wp.skip ?_
    refine chk_e h fun c2 h => ?_
    refine let_e h fun r3 hr3 h => ?_
    refine let_e h fun x4 hx4 h => ?_
    refine Wp.seq ?_
    refine Wp.region ?_
    refine GoT.q rfl (QEx.move rfl (.tmp rfl)) rfl (lt_b rfl) ?_
    refine GoT.q rfl (QEx.as (.cptr (Vec.cells (ix points 0))) (QEx.idxL (E := Vec.av) rfl et31 (.tmp rfl) .con c2)) rfl (lt_b rfl) ?_
    refine GoT.q rfl (QEx.ldC (x := (Vec.av (ix points 0))) rfl ag24 ts24 (.tmp rfl) (.inl ⟨rfl, rfl, rfl⟩)) rfl (lt_b rfl) ?_
    refine GoT.q rfl (QEx.cal0 (r := (Vec.av r3)) [(Vec.av (ix points 0))] rfl Tryz.call136 (.cons (.tmp rfl) .nil) (aabb_saturate_ok hr3) rfl rfl) rfl (lt_b rfl) ?_
    refine GoT.a rfl (AEx.alZ rfl zt24 rfl rfl) rfl (lt_b rfl) ?_
    refine GoT.s rfl (AEx.sto (Z := (Vec.cells x4)) rfl rfl ts24 (.tmp rfl) rfl (.tmp rfl) rfl rfl (le_b rfl) (congrArg (fun (x : Vec) => (Vec.cells x)) hx4)) rfl ?_
    refine GoT.nil ?_
    refine let_e h fun x5 hx5 h => ?_
    refine Wp.seq ?_
    refine Wp.region ?_
    refine GoT.qr rfl rfl (QEx.ldP (Vec.cells x4) (Vec.av x4) rfl ag24 ts24 (.tmp rfl) (le_b rfl) rfl) rfl (lt_b rfl) ?_
    refine GoT.qr rfl rfl (QEx.ldP (Vec.cells x4) (Vec.av x4) rfl ag24 ts24 (.tmp rfl) (le_b rfl) rfl) rfl (lt_b rfl) ?_
    refine GoT.q rfl (QEx.as (AABB.av (⟨x4, x4⟩ : AABB)) (QEx.buildZ rfl uT45 zt45 (by kernel_rfl) (.cons rfl (.tmp rfl) rfl rfl (le_b rfl) (.cons rfl (.tmp rfl) rfl rfl (le_b rfl) .nil)))) rfl (lt_b rfl) ?_
    refine GoT.a rfl (AEx.alZ rfl zt45 rfl rfl) rfl (lt_b rfl) ?_
    refine GoT.s rfl (AEx.sto (Z := (AABB.cells x5)) rfl rfl ts45 (.tmp rfl) rfl (.tmp rfl) rfl rfl (le_b rfl) (congrArg (fun (x : AABB) => (AABB.cells x)) hx5)) rfl ?_
    refine GoT.nil ?_
    refine Wp.join1 (fun v6 => ⟨[(2, (.ptr 2 0)), (5, (.ptr 5 0))], [(2, .cells (AABB.cells AABB.zero)), (5, .cells (AABB.cells v6))], [4, 7, 8, 12, 19, 20]⟩) (fun v6 => aabb_FromPoints_j2 v6 = some r) ?_ ?_
    · intro v6 h
      refine let_e h fun x20 hx20 h => ?_
      refine Wp.seq ?_
      refine Wp.region ?_
      refine GoT.qr rfl rfl (QEx.ldP (AABB.cells v6) (AABB.av v6) rfl ag45 ts45 (.tmp rfl) (le_b rfl) rfl) rfl (lt_b rfl) ?_
      refine GoT.s rfl (AEx.sto (Z := (AABB.cells x20)) rfl rfl ts45 (.tmp rfl) rfl (.tmp rfl) rfl rfl (le_b rfl) (congrArg (fun (x : AABB) => (AABB.cells x)) hx20)) rfl ?_
      refine GoT.q rfl (QEx.as (boolAV true) (QEx.assign rfl .con)) rfl (lt_b rfl) ?_
      refine GoT.nil ?_
      refine Wp.ret ?_
      cases h
      exact LeafQ.ret [] (by decide) (.cons (.agg rfl rfl ag45 ts45) (.cons (.tmp rfl) .nil)) rfl
    · refine chk_e h fun c7 h => ?_
      refine let_e h fun x8 hx8 h => ?_
      refine Wp.seq ?_
      refine Wp.region ?_
      refine GoT.q rfl (QEx.move rfl (.tmp rfl)) rfl (lt_b rfl) ?_
      refine GoT.q rfl (QEx.eq (QEx.slFrom rfl et31 (.tmp rfl) .con c7) (congrArg (slAV 2 Vec.av) hx8)) rfl (lt_b rfl) ?_
      refine GoT.q rfl (QEx.lenL rfl ⟨_, uT31⟩ (.tmp rfl)) rfl (lt_b rfl) ?_
      refine GoT.q rfl (QEx.as (iAV 0) (QEx.move rfl .con)) rfl (lt_b rfl) ?_
      refine GoT.nil ?_
      refine Wp.block ?_
      refine Wp.loop2 (fun v9 v10 => ⟨[(2, (.ptr 2 0)), (5, (.ptr 5 0)), (20, ((slAV 2 Vec.av) x8)), (21, (iAV ((x8).length : Int))), (22, (iAV v9))], [(2, .cells (AABB.cells AABB.zero)), (5, .cells (AABB.cells v10))], [4, 7, 8, 12, 19, 20]⟩) (fun n v9 v10 => aabb_FromPoints_l1 aabb_FromPoints_j2 x8 n v9 v10 = some r) fuel 0 x5 [4] [] h (LS.to.mk (.r rfl rfl (.r rfl rfl (.b rfl rfl (.b rfl rfl (.b rfl rfl .n))))) (.b rfl rfl rfl (.b rfl rfl rfl .n)) rfl) ?_
      rintro (_ | n2) v9 v10 h
      · exact none_e h
      rw [aabb_FromPoints_l1] at h
      refine Wp.seq ?_
      refine Wp.region ?_
      refine GoT.q rfl (QEx.lssK rfl (.tmp rfl) (.tmp rfl)) rfl (lt_b rfl) ?_
      refine GoT.nil ?_
      refine Wp.seq ?_
      refine Wp.condS h rfl (fun h => ?_) (fun h => ?_)
      · refine Wp.skip ?_
        refine Wp.seq ?_
        refine Wp.block ?_
        refine chk_e h fun c11 h => ?_
        refine let_e h fun x12 hx12 h => ?_
        refine Wp.seq ?_
        refine Wp.region ?_
        refine GoT.q rfl (QEx.as (.cptr (Vec.cells (ix x8 v9))) (QEx.idxL (E := Vec.av) rfl et31 (.tmp rfl) (.tmp rfl) c11)) rfl (lt_b rfl) ?_
        refine GoT.q rfl (QEx.ldC (x := (Vec.av (ix x8 v9))) rfl ag24 ts24 (.tmp rfl) (.inl ⟨rfl, rfl, rfl⟩)) rfl (lt_b rfl) ?_
        refine GoT.a rfl (AEx.alZ rfl zt24 rfl rfl) rfl (lt_b rfl) ?_
        refine GoT.s rfl (AEx.sto (Z := (Vec.cells x12)) rfl rfl ts24 (.tmp rfl) rfl (.tmp rfl) rfl rfl (le_b rfl) (congrArg (fun (x : Vec) => (Vec.cells x)) hx12)) rfl ?_
        refine GoT.nil ?_
        refine let_e h fun r13 hr13 h => ?_
        refine let_e h fun x14 hx14 h => ?_
        refine Wp.seq ?_
        refine Wp.region ?_
        refine GoT.qr rfl rfl (QEx.ldP (Vec.cells x12) (Vec.av x12) rfl ag24 ts24 (.tmp rfl) (le_b rfl) rfl) rfl (lt_b rfl) ?_
        refine GoT.q rfl (QEx.cal0 (r := (Vec.av r13)) [(Vec.av x12)] rfl Tryz.call136 (.cons (.tmp rfl) .nil) (aabb_saturate_ok hr13) rfl rfl) rfl (lt_b rfl) ?_
        refine GoT.s rfl (AEx.sto (Z := (Vec.cells x14)) rfl rfl ts24 (.tmp rfl) rfl (.tmp rfl) rfl rfl (le_b rfl) (congrArg (fun (x : Vec) => (Vec.cells x)) hx14)) rfl ?_
        refine GoT.nil ?_
        refine let_e h fun r15 hr15 h => ?_
        refine let_e h fun x16 hx16 h => ?_
        refine Wp.seq ?_
        refine Wp.region ?_
        refine GoT.q rfl (QEx.fldP 0 rfl uT45 rfl ts24 rfl (.tmp rfl) rfl) rfl (lt_b rfl) ?_
        refine GoT.qr rfl rfl (QEx.ldP (AABB.cells v10) (Vec.av v10.Min) rfl ag24 ts24 (.tmp rfl) (le_b rfl) rfl) rfl (lt_b rfl) ?_
        refine GoT.qr rfl rfl (QEx.ldP (Vec.cells x14) (Vec.av x14) rfl ag24 ts24 (.tmp rfl) (le_b rfl) rfl) rfl (lt_b rfl) ?_
        refine GoT.q rfl (QEx.cal0 (r := (Vec.av r15)) [(Vec.av v10.Min), (Vec.av x14)] rfl Tryz.call95 (.cons (.tmp rfl) (.cons (.tmp rfl) .nil)) (aabb_lower_ok hr15) rfl rfl) rfl (lt_b rfl) ?_
        refine GoT.q rfl (QEx.fldP 0 rfl uT45 rfl ts24 rfl (.tmp rfl) rfl) rfl (lt_b rfl) ?_
        refine GoT.s rfl (AEx.sto (Z := (AABB.cells x16)) rfl rfl ts24 (.tmp rfl) rfl (.tmp rfl) rfl rfl (le_b rfl) (congrArg (fun (x : AABB) => (AABB.cells x)) hx16)) rfl ?_
        refine GoT.nil ?_
        refine let_e h fun r17 hr17 h => ?_
        refine let_e h fun x18 hx18 h => ?_
        refine Wp.region ?_
        refine GoT.q rfl (QEx.fldP 2 rfl uT45 rfl ts24 rfl (.tmp rfl) rfl) rfl (lt_b rfl) ?_
        refine GoT.qr rfl rfl (QEx.ldP (AABB.cells x16) (Vec.av x16.Max) rfl ag24 ts24 (.tmp rfl) (le_b rfl) rfl) rfl (lt_b rfl) ?_
        refine GoT.qr rfl rfl (QEx.ldP (Vec.cells x14) (Vec.av x14) rfl ag24 ts24 (.tmp rfl) (le_b rfl) rfl) rfl (lt_b rfl) ?_
        refine GoT.q rfl (QEx.cal0 (r := (Vec.av r17)) [(Vec.av x16.Max), (Vec.av x14)] rfl Tryz.call96 (.cons (.tmp rfl) (.cons (.tmp rfl) .nil)) (aabb_upper_ok hr17) rfl rfl) rfl (lt_b rfl) ?_
        refine GoT.q rfl (QEx.fldP 2 rfl uT45 rfl ts24 rfl (.tmp rfl) rfl) rfl (lt_b rfl) ?_
        refine GoT.s rfl (AEx.sto (Z := (AABB.cells x18)) rfl rfl ts24 (.tmp rfl) rfl (.tmp rfl) rfl rfl (le_b rfl) (congrArg (fun (x : AABB) => (AABB.cells x)) hx18)) rfl ?_
        refine GoT.nil ?_
        refine let_e h fun x19 hx19 h => ?_
        refine Wp.region ?_
        refine GoT.q rfl (QEx.addK rfl (.tmp rfl) .con) rfl (lt_b rfl) ?_
        refine GoT.q rfl (QEx.eq (QEx.move rfl (.tmp rfl)) (congrArg iAV hx19)) rfl (lt_b rfl) ?_
        refine GoT.nil ?_
        exact Round2.mk x19 x18 [7] [] h (LS.to.mk (.r rfl rfl (.r rfl rfl (.b rfl rfl (.b rfl rfl (.b rfl rfl .n))))) (.b rfl rfl rfl (.b rfl rfl rfl .n)) rfl)
      · refine Wp.exit ?_
        exact Joined1.mk v10 [] [] h (LS.to.mk (.r rfl rfl (.r rfl rfl .n)) (.b rfl rfl rfl (.b rfl rfl rfl .n)) rfl)
theorem shape_Bounds_ok {s : Shape} {p : Transform} {r : AABB} (h : shape_Bounds s p = some r) : FnR Tryz.prog 41 [(Shape.av s), (Transform.av p)] (AABB.av r) := by
  refine FnR.intro' (fn := Tryz.f41) (N := 32) Tryz.func41 rfl rfl (Nat.le_of_ble_eq_true rfl) [2, 3, 4, 5, 7, 11] ?_
  refine Wp.seq ?_
  refine Wp.region ?_
  refine GoT.a rfl (AEx.bx (Z := (Shape.cells s)) rfl (.tmp rfl) rfl rfl rfl rfl) rfl (lt_b rfl) ?_
  refine GoT.a rfl (AEx.bx (Z := (Transform.cells p)) rfl (.tmp rfl) rfl rfl rfl rfl) rfl (lt_b rfl) ?_
  refine GoT.a rfl (AEx.alZ rfl zt45 rfl rfl) rfl (lt_b rfl) ?_
  refine GoT.nil ?_
  refine bind_e h fun r1 hr1 h => ?_
  refine bind_e h fun r2 hr2 h => ?_
  refine let_e h fun x3 hx3 h => ?_
  refine Wp.seq ?_
  refine Wp.region ?_
  refine GoT.qr rfl rfl (QEx.ldP (Shape.cells s) (Shape.av s) rfl ag33 ts33 (.tmp rfl) (le_b rfl) rfl) rfl (lt_b rfl) ?_
  refine GoT.qr rfl rfl (QEx.ldP (Transform.cells p) (Transform.av p) rfl ag26 ts26 (.tmp rfl) (le_b rfl) rfl) rfl (lt_b rfl) ?_
  refine GoT.c rfl (QEx.cal (r' := (slT 11 0 2 Vec.av r1)) [(Shape.av s), (Transform.av p)] rfl Tryz.call93 (.cons (.tmp rfl) (.cons (.tmp rfl) .nil)) (shape_Vertices_ok hr1) rfl rfl rfl) rfl rfl (lt_b rfl) ?_
  refine GoT.q rfl (QEx.cal0 (r := (.tup [(AABB.av r2.1), (boolAV r2.2)])) [((slAV 2 Vec.av) r1)] rfl Tryz.call92 (.cons (.tmp rfl) .nil) (aabb_FromPoints_ok hr2) rfl rfl) rfl (lt_b rfl) ?_
  refine GoT.q rfl (QEx.move rfl (.tmp rfl)) rfl (lt_b rfl) ?_
  refine GoT.q rfl (QEx.extract rfl (.tmp rfl) rfl) rfl (lt_b rfl) ?_
  refine GoT.q rfl (QEx.extract rfl (.tmp rfl) rfl) rfl (lt_b rfl) ?_
  refine GoT.a rfl (AEx.alZ rfl zt45 rfl rfl) rfl (lt_b rfl) ?_
  refine GoT.s rfl (AEx.sto (Z := (AABB.cells x3)) rfl rfl ts45 (.tmp rfl) rfl (.tmp rfl) rfl rfl (le_b rfl) (congrArg (fun (x : AABB) => (AABB.cells x)) hx3)) rfl ?_
  refine GoT.q rfl (QEx.assign rfl (.tmp rfl)) rfl (lt_b rfl) ?_
  refine GoT.nil ?_
  refine Wp.seq ?_
  refine Wp.seq ?_
  refine Wp.region ?_
  refine GoT.q rfl (QEx.move rfl (.tmp rfl)) rfl (lt_b rfl) ?_
  refine GoT.q rfl (QEx.notK rfl (.tmp rfl)) rfl (lt_b rfl) ?_
  refine GoT.nil ?_
  refine Wp.condS h rfl (fun h => ?_) (fun h => ?_)
  · refine let_e h fun x4 hx4 h => ?_
    refine Wp.seq ?_
    refine Wp.region ?_
    refine GoT.q rfl (QEx.as (AABB.av (⟨Vec.zero, Vec.zero⟩ : AABB)) (QEx.buildZ rfl uT45 zt45 (by kernel_rfl) .nil)) rfl (lt_b rfl) ?_
    refine GoT.s rfl (AEx.sto (Z := (AABB.cells x4)) rfl rfl ts45 (.tmp rfl) rfl (.tmp rfl) rfl rfl (le_b rfl) (congrArg (fun (x : AABB) => (AABB.cells x)) hx4)) rfl ?_
    refine GoT.nil ?_
    refine Wp.ret ?_
    cases h
    exact LeafQ.ret [] (by decide) (.cons (.agg rfl rfl ag45 ts45) .nil) rfl
  · refine Wp.skip ?_
    refine let_e h fun x5 hx5 h => ?_
    refine Wp.seq ?_
    refine Wp.region ?_
    refine GoT.q rfl (QEx.fldP 1 rfl uT33 rfl ts3 rfl (.tmp rfl) rfl) rfl (lt_b rfl) ?_
    refine GoT.qr rfl rfl (QEx.ldP1 (Shape.cells s) (iAV s.Radius) rfl ag3 (.tmp rfl) rfl) rfl (lt_b rfl) ?_
    refine GoT.q rfl (QEx.fldP 1 rfl uT33 rfl ts3 rfl (.tmp rfl) rfl) rfl (lt_b rfl) ?_
    refine GoT.qr rfl rfl (QEx.ldP1 (Shape.cells s) (iAV s.Radius) rfl ag3 (.tmp rfl) rfl) rfl (lt_b rfl) ?_
    refine GoT.q rfl (QEx.as (Vec.av (⟨s.Radius, s.Radius⟩ : Vec)) (QEx.buildZ rfl uT24 zt24 (by kernel_rfl) (.cons rfl (.tmp rfl) rfl rfl (le_b rfl) (.cons rfl (.tmp rfl) rfl rfl (le_b rfl) .nil)))) rfl (lt_b rfl) ?_
    refine GoT.a rfl (AEx.alZ rfl zt24 rfl rfl) rfl (lt_b rfl) ?_
    refine GoT.s rfl (AEx.sto (Z := (Vec.cells x5)) rfl rfl ts24 (.tmp rfl) rfl (.tmp rfl) rfl rfl (le_b rfl) (congrArg (fun (x : Vec) => (Vec.cells x)) hx5)) rfl ?_
    refine GoT.nil ?_
    refine let_e h fun r6 hr6 h => ?_
    refine let_e h fun r7 hr7 h => ?_
    refine let_e h fun x8 hx8 h => ?_
    refine Wp.seq ?_
    refine Wp.drawn2 (n0 := 10) [] mixed ?_
    refine GoD.q rfl (QEx.fldP 0 rfl uT45 rfl ts24 rfl (.tmp rfl) rfl) rfl (lt_b rfl) ?_
    refine GoD.qr rfl rfl (QEx.ldP (AABB.cells x3) (Vec.av x3.Min) rfl ag24 ts24 (.tmp rfl) (le_b rfl) rfl) rfl (lt_b rfl) ?_
    refine GoD.qr rfl rfl (QEx.ldP (Vec.cells x5) (Vec.av x5) rfl ag24 ts24 (.tmp rfl) (le_b rfl) rfl) rfl (lt_b rfl) ?_
    refine GoD.q rfl (QEx.cal0 (r := (Vec.av r6)) [(Vec.av x3.Min), (Vec.av x5)] rfl Tryz.call51 (.cons (.tmp rfl) (.cons (.tmp rfl) .nil)) (vec2_Sub_ok hr6) rfl rfl) rfl (lt_b rfl) ?_
    refine GoD.q rfl (QEx.fldP 2 rfl uT45 rfl ts24 rfl (.tmp rfl) rfl) rfl (lt_b rfl) ?_
    refine GoD.qr rfl rfl (QEx.ldP (AABB.cells x3) (Vec.av x3.Max) rfl ag24 ts24 (.tmp rfl) (le_b rfl) rfl) rfl (lt_b rfl) ?_
    refine GoD.qr rfl rfl (QEx.ldP (Vec.cells x5) (Vec.av x5) rfl ag24 ts24 (.tmp rfl) (le_b rfl) rfl) rfl (lt_b rfl) ?_
    refine GoD.q rfl (QEx.cal0 (r := (Vec.av r7)) [(Vec.av x3.Max), (Vec.av x5)] rfl Tryz.call52 (.cons (.tmp rfl) (.cons (.tmp rfl) .nil)) (vec2_Add_ok hr7) rfl rfl) rfl (lt_b rfl) ?_
    refine GoD.q rfl (QEx.as (AABB.av (⟨r6, r7⟩ : AABB)) (QEx.buildZ rfl uT45 zt45 (by kernel_rfl) (.cons rfl (.tmp rfl) rfl rfl (le_b rfl) (.cons rfl (.tmp rfl) rfl rfl (le_b rfl) .nil)))) rfl (lt_b rfl) ?_
    refine GoD.s rfl (Z := (AABB.cells x8)) rfl rfl ts45 (.tmp rfl) rfl (.tmp rfl) rfl rfl (le_b rfl) (congrArg (fun (x : AABB) => (AABB.cells x)) hx8) ?_
    refine GoD.nil ⟨by kernel_rfl, by kernel_rfl, by kernel_rfl, by kernel_rfl, by kernel_rfl, ?_⟩
    refine GoT.nil ?_
    refine Wp.ret ?_
    cases h
    exact LeafQ.ret [] (by decide) (.cons (.agg rfl rfl ag45 ts45) .nil) rfl
theorem aabb_saturated_ok {v_0 : Vec} {r : Bool} (h : aabb_saturated v_0 = r) : FnR Tryz.prog 137 [(Vec.av v_0)] (boolAV r) := by
  refine FnR.intro' (fn := Tryz.f137) (N := 17) Tryz.func137 rfl rfl (Nat.le_of_ble_eq_true rfl) [1] ?_
  refine Wp.seq ?_
  refine Wp.region ?_
  refine GoT.a rfl (AEx.bx (Z := (Vec.cells v_0)) rfl (.tmp rfl) rfl rfl rfl rfl) rfl (lt_b rfl) ?_
  refine GoT.q rfl (QEx.as (boolAV false) (QEx.assign rfl .con)) rfl (lt_b rfl) ?_
  refine GoT.nil ?_
  refine let_e h fun r1 hr1 h => ?_
  refine let_e h fun r2 hr2 h => ?_
  refine let_e h fun x3 hx3 h => ?_
  refine Wp.seq ?_
  refine Wp.drawn2 (n0 := 15) [] mixed ?_
  refine GoD.q rfl (QEx.fldP 0 rfl uT24 rfl ts3 rfl (.tmp rfl) rfl) rfl (lt_b rfl) ?_
  refine GoD.qr rfl rfl (QEx.ldP1 (Vec.cells v_0) (iAV v_0.X) rfl ag3 (.tmp rfl) rfl) rfl (lt_b rfl) ?_
  refine GoD.q rfl (QEx.cal0 (r := (iAV r1)) [(iAV v_0.X)] rfl Tryz.call117 (.cons (.tmp rfl) .nil) (fixed_Saturate_ok hr1) rfl rfl) rfl (lt_b rfl) ?_
  refine GoD.q rfl (QEx.fldP 0 rfl uT24 rfl ts3 rfl (.tmp rfl) rfl) rfl (lt_b rfl) ?_
  refine GoD.qr rfl rfl (QEx.ldP1 (Vec.cells v_0) (iAV v_0.X) rfl ag3 (.tmp rfl) rfl) rfl (lt_b rfl) ?_
  refine GoD.q rfl (QEx.eqlK rfl (.tmp rfl) (.tmp rfl)) rfl (lt_b rfl) ?_
  refine GoD.q rfl (QEx.move rfl (.tmp rfl)) rfl (lt_b rfl) ?_
  refine GoD.g rfl rfl rfl (fun hg => QEx.fldP 1 rfl uT24 rfl ts3 rfl (.tmp rfl) rfl) rfl (lt_b rfl) ?_
  refine GoD.gr rfl rfl rfl rfl (fun hg => QEx.ldP1 (Vec.cells v_0) (iAV v_0.Y) rfl ag3 (.opt (.tmp rfl) hg) rfl) rfl (lt_b rfl) ?_
  refine GoD.g rfl rfl rfl (fun hg => QEx.cal0 (r := (iAV r2)) [(iAV v_0.Y)] rfl Tryz.call117 (.cons (.opt (.tmp rfl) hg) .nil) (fixed_Saturate_ok hr2) rfl rfl) rfl (lt_b rfl) ?_
  refine GoD.g rfl rfl rfl (fun hg => QEx.fldP 1 rfl uT24 rfl ts3 rfl (.tmp rfl) rfl) rfl (lt_b rfl) ?_
  refine GoD.gr rfl rfl rfl rfl (fun hg => QEx.ldP1 (Vec.cells v_0) (iAV v_0.Y) rfl ag3 (.opt (.tmp rfl) hg) rfl) rfl (lt_b rfl) ?_
  refine GoD.g rfl rfl rfl (fun hg => QEx.eqlK rfl (.opt (.tmp rfl) hg) (.opt (.tmp rfl) hg)) rfl (lt_b rfl) ?_
  refine GoD.q rfl (QEx.pickK rfl (.tmp rfl) (fun hp => (.opt (.tmp rfl) (beq_t hp))) (fun hp => .con)) rfl (lt_b rfl) ?_
  refine GoD.q rfl (QEx.eq (QEx.assign rfl (.tmp rfl)) (congrArg boolAV hx3)) rfl (lt_b rfl) ?_
  refine GoD.nil ⟨by kernel_rfl, by kernel_rfl, by kernel_rfl, by kernel_rfl, by kernel_rfl, ?_⟩
  refine GoT.nil ?_
  refine Wp.ret ?_
  cases h
  exact LeafQ.ret [] (by decide) (.cons (.tmp rfl) .nil) rfl
end GoForm
