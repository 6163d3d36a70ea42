/- The program's functions compute their plain forms: printed by gen2.py. No conditions. -/
import Derived.Test.YtblkmlpjhpgkjaaF23W2
set_option linter.all false
set_option maxRecDepth 100000
open Go Go.Cx Go.Proofs Go.RowKit
namespace GoForm
theorem body_Clone_ok {b : Body} {r : Body} (h : body_Clone b = some r) : FnR Try.prog 9 [(Body.av b)] (Body.av r) := by
  refine FnR.intro' (fn := Try.f9) (N := 25) Try.func9 rfl rfl (Nat.le_of_ble_eq_true rfl) [1, 2, 3, 5, 17, 19, 20, 22] ?_
  refine Wp.seq ?_
  refine Wp.region ?_
  refine GoT.a rfl (AEx.bx (Z := (Body.cells b)) rfl (.tmp rfl) rfl rfl rfl rfl) rfl (lt_b rfl) ?_
  refine GoT.a rfl (AEx.alZ rfl zt29 rfl rfl) rfl (lt_b rfl) ?_
  refine GoT.nil ?_
  refine Wp.seq ?_
  refine Wp.region ?_
  refine GoT.q rfl (QEx.as (slT 3 0 10 Fixture.av ([] : List Fixture)) (QEx.assign rfl (.nil))) rfl (lt_b rfl) ?_
  refine GoT.nil ?_
  refine Wp.join1 (fun v1 => ⟨[(1, (.ptr 1 0)), (2, (.ptr 2 0)), (3, (slT 3 0 10 Fixture.av v1))], [(1, .cells (Body.cells b)), (2, .cells (Body.cells Body.zero))], [5, 17, 19, 20, 22]⟩) (fun v1 => (body_Clone_j2 b) v1 = some r) ?_ ?_
  · intro v1 h
    refine let_e h fun x11 hx11 h => ?_
    refine Wp.seq ?_
    refine Wp.region ?_
    refine GoT.q rfl (QEx.move rfl (.tmp rfl)) rfl (lt_b rfl) ?_
    refine GoT.q rfl (QEx.fldP 19 rfl Try.underlying29 rfl ts27 rfl (.tmp rfl) rfl) rfl (lt_b rfl) ?_
    refine GoT.s rfl (AEx.sto (Z := (Body.cells x11)) rfl rfl ts27 (.tmp rfl) rfl (.drop (.tmp rfl)) rfl rfl (le_b rfl) (congrArg (fun (x : Body) => (Body.cells x)) hx11)) rfl ?_
    refine GoT.nil ?_
    refine let_e h fun x12 hx12 h => ?_
    refine Wp.seq ?_
    refine Wp.region ?_
    refine GoT.qr rfl rfl (QEx.ldP (Body.cells x11) (Body.av x11) rfl ag29 ts29 (.tmp rfl) (le_b rfl) rfl) rfl (lt_b rfl) ?_
    refine GoT.s rfl (AEx.sto (Z := (Body.cells x12)) rfl rfl ts29 (.tmp rfl) rfl (.tmp rfl) rfl rfl (le_b rfl) (congrArg (fun (x : Body) => (Body.cells x)) hx12)) rfl ?_
    refine GoT.nil ?_
    refine Wp.ret ?_
    cases h
    exact LeafQ.ret [] (by decide) (.cons (.agg rfl rfl ag29 ts29) .nil) rfl
  · refine Wp.seq ?_
    refine Wp.region ?_
    refine GoT.q rfl (QEx.fldP 19 rfl Try.underlying29 rfl ts27 rfl (.tmp rfl) rfl) rfl (lt_b rfl) ?_
    refine GoT.qr rfl rfl (QEx.ldP1 (Body.cells b) ((slAV 10 Fixture.av) b.Fixtures) rfl ag27 (.tmp rfl) rfl) rfl (lt_b rfl) ?_
    refine GoT.q rfl (QEx.lenL rfl ⟨_, Try.underlying27⟩ (.tmp rfl)) rfl (lt_b rfl) ?_
    refine GoT.q rfl (QEx.as (iAV 0) (QEx.move rfl .con)) rfl (lt_b rfl) ?_
    refine GoT.nil ?_
    refine Wp.block ?_
    refine Wp.loop2 (fun v2 v3 => ⟨[(1, (.ptr 1 0)), (2, (.ptr 2 0)), (3, (slT 3 0 10 Fixture.av v2)), (7, ((slAV 10 Fixture.av) b.Fixtures)), (8, (iAV ((b.Fixtures).length : Int))), (9, (iAV v3))], [(1, .cells (Body.cells b)), (2, .cells (Body.cells Body.zero))], [5, 17, 19, 20, 22]⟩) (fun n v2 v3 => body_Clone_l1 b (body_Clone_j2 b) n v2 v3 = some r) fuel ([] : List Fixture) 0 [] [] h (LS.to.mk (.r rfl rfl (.r rfl rfl (.r rfl rfl (.b rfl rfl (.b rfl rfl (.b rfl rfl .n)))))) (.b rfl rfl rfl (.b rfl rfl rfl .n)) rfl) ?_
    rintro (_ | n2) v2 v3 h
    · exact none_e h
    rw [body_Clone_l1] at h
    refine Wp.seq ?_
    refine Wp.region ?_
    refine GoT.q rfl (QEx.lssK rfl (.tmp rfl) (.tmp rfl)) rfl (lt_b rfl) ?_
    refine GoT.nil ?_
    refine Wp.seq ?_
    refine Wp.condS h rfl (fun h => ?_) (fun h => ?_)
    · refine Wp.skip ?_
      refine Wp.seq ?_
      refine Wp.block ?_
      refine chk_e h fun c4 h => ?_
      refine let_e h fun x5 hx5 h => ?_
      refine Wp.seq ?_
      refine Wp.region ?_
      refine GoT.q rfl (QEx.as (.cptr (Fixture.cells (ix b.Fixtures v3))) (QEx.idxL (E := Fixture.av) rfl et27 (.tmp rfl) (.tmp rfl) c4)) rfl (lt_b rfl) ?_
      refine GoT.q rfl (QEx.ldC (x := (Fixture.av (ix b.Fixtures v3))) rfl ag39 ts39 (.tmp rfl) (.inl ⟨rfl, rfl, rfl⟩)) rfl (lt_b rfl) ?_
      refine GoT.a rfl (AEx.alZ rfl zt39 rfl rfl) rfl (lt_b rfl) ?_
      refine GoT.s rfl (AEx.sto (Z := (Fixture.cells x5)) rfl rfl ts39 (.tmp rfl) rfl (.tmp rfl) rfl rfl (le_b rfl) (congrArg (fun (x : Fixture) => (Fixture.cells x)) hx5)) rfl ?_
      refine GoT.nil ?_
      refine bind_e h fun r6 hr6 h => ?_
      refine let_e h fun x7 hx7 h => ?_
      refine Wp.seq ?_
      refine Wp.region ?_
      refine GoT.q rfl (QEx.fldP 0 rfl Try.underlying39 rfl ts37 rfl (.tmp rfl) rfl) rfl (lt_b rfl) ?_
      refine GoT.qr rfl rfl (QEx.ldP (Fixture.cells x5) (Shape.av x5.Shape) rfl ag37 ts37 (.tmp rfl) (le_b rfl) rfl) rfl (lt_b rfl) ?_
      refine GoT.q rfl (QEx.cal0 (r := (Shape.av r6)) [(Shape.av x5.Shape)] rfl Try.call24 (.cons (.tmp rfl) .nil) (shape_Clone_ok hr6) rfl rfl) rfl (lt_b rfl) ?_
      refine GoT.q rfl (QEx.fldP 0 rfl Try.underlying39 rfl ts37 rfl (.tmp rfl) rfl) rfl (lt_b rfl) ?_
      refine GoT.s rfl (AEx.sto (Z := (Fixture.cells x7)) rfl rfl ts37 (.tmp rfl) rfl (.tmp rfl) rfl rfl (le_b rfl) (congrArg (fun (x : Fixture) => (Fixture.cells x)) hx7)) rfl ?_
      refine GoT.nil ?_
      refine chk_e h fun c8 h => ?_
      refine let_e h fun x9 hx9 h => ?_
      refine Wp.region ?_
      refine GoT.q rfl (QEx.move rfl (.tmp rfl)) rfl (lt_b rfl) ?_
      refine GoT.qr rfl rfl (QEx.ldP (Fixture.cells x7) (Fixture.av x7) rfl ag39 ts39 (.tmp rfl) (le_b rfl) rfl) rfl (lt_b rfl) ?_
      refine GoT.q rfl (QEx.as (slT 19 0 10 Fixture.av ([x7] : List Fixture)) (QEx.buildSlice rfl et27 (.cons (.tmp rfl) rfl rfl rfl .nil) rfl (by decide))) rfl (lt_b rfl) ?_
      refine GoT.a rfl (AEx.appL (E := Fixture.av) rfl et27 (.tmp rfl) (.tmp rfl) rfl c8 rfl rfl hx9 (by decide)) rfl (lt_b rfl) ?_
      refine GoT.q rfl (QEx.assign rfl (.tmp rfl)) rfl (lt_b rfl) ?_
      refine GoT.nil ?_
      refine let_e h fun x10 hx10 h => ?_
      refine Wp.region ?_
      refine GoT.q rfl (QEx.addK rfl (.tmp rfl) .con) rfl (lt_b rfl) ?_
      refine GoT.q rfl (QEx.eq (QEx.move rfl (.tmp rfl)) (congrArg iAV hx10)) rfl (lt_b rfl) ?_
      refine GoT.nil ?_
      exact Round2.mk x9 x10 [5] [(20, 3)] h (LS.to.mk (.r rfl rfl (.r rfl rfl (.r rfl rfl (.b rfl rfl (.b rfl rfl (.b rfl rfl .n)))))) (.b rfl rfl rfl (.b rfl rfl rfl .n)) rfl)
    · refine Wp.exit ?_
      exact Joined1.mk v2 [] [] h (LS.to.mk (.r rfl rfl (.r rfl rfl (.r rfl rfl .n))) (.b rfl rfl rfl (.b rfl rfl rfl .n)) rfl)
theorem slices_Equal_Vec_ok {s1 : List Vec} {s2 : List Vec} {r : Bool} (h : slices_Equal_Vec s1 s2 = some r) : FnR Try.prog 74 [((slAV 2 Vec.av) s1), ((slAV 2 Vec.av) s2)] (boolAV r) := by
  refine FnR.intro' (fn := Try.f74) (N := 26) Try.func74 rfl rfl (Nat.le_of_ble_eq_true rfl) [6, 8, 11, 16, 20] ?_
  refine Wp.seq ?_
  refine Wp.region ?_
  refine GoT.q rfl (QEx.as (boolAV false) (QEx.assign rfl .con)) rfl (lt_b rfl) ?_
  refine GoT.nil ?_
  refine Wp.seq ?_
  refine Wp.seq ?_
  refine Wp.region ?_
  refine GoT.q rfl (QEx.move rfl (.tmp rfl)) rfl (lt_b rfl) ?_
  refine GoT.q rfl (QEx.lenL rfl ⟨_, Try.underlying35⟩ (.tmp rfl)) rfl (lt_b rfl) ?_
  refine GoT.q rfl (QEx.move rfl (.tmp rfl)) rfl (lt_b rfl) ?_
  refine GoT.q rfl (QEx.lenL rfl ⟨_, Try.underlying35⟩ (.tmp rfl)) rfl (lt_b rfl) ?_
  refine GoT.q rfl (QEx.neqK rfl (.tmp rfl) (.tmp rfl)) rfl (lt_b rfl) ?_
  refine GoT.nil ?_
  refine Wp.condS h rfl (fun h => ?_) (fun h => ?_)
  · refine Wp.seq ?_
    refine Wp.region ?_
    refine GoT.q rfl (QEx.as (boolAV false) (QEx.assign rfl .con)) rfl (lt_b rfl) ?_
    refine GoT.nil ?_
    refine Wp.ret ?_
    cases h
    exact LeafQ.ret [] (by decide) (.cons (.tmp rfl) .nil) rfl
  · refine Wp.skip ?_
    refine Wp.join0 (⟨[], [], [6, 8, 11, 16, 20]⟩) (slices_Equal_Vec_j2 = some r) ?_ ?_
    · intro h
      refine Wp.seq ?_
      refine Wp.region ?_
      refine GoT.q rfl (QEx.as (boolAV true) (QEx.assign rfl .con)) rfl (lt_b rfl) ?_
      refine GoT.nil ?_
      refine Wp.ret ?_
      cases h
      exact LeafQ.ret [] (by decide) (.cons (.tmp rfl) .nil) rfl
    · refine Wp.seq ?_
      refine Wp.region ?_
      refine GoT.q rfl (QEx.move rfl (.tmp rfl)) rfl (lt_b rfl) ?_
      refine GoT.q rfl (QEx.lenL rfl ⟨_, Try.underlying35⟩ (.tmp rfl)) rfl (lt_b rfl) ?_
      refine GoT.q rfl (QEx.as (iAV 0) (QEx.move rfl .con)) rfl (lt_b rfl) ?_
      refine GoT.nil ?_
      refine Wp.block ?_
      refine Wp.loop1 (fun v1 => ⟨[(0, ((slAV 2 Vec.av) s1)), (1, ((slAV 2 Vec.av) s2)), (12, (iAV ((s1).length : Int))), (13, (iAV v1))], [], [6, 8, 11, 16, 20]⟩) (fun n v1 => slices_Equal_Vec_l1 s1 s2 slices_Equal_Vec_j2 n v1 = some r) fuel 0 [] [] h (LS.to.mk (.b rfl rfl (.b rfl rfl (.b rfl rfl (.b rfl rfl .n)))) .n rfl) ?_
      rintro (_ | n2) v1 h
      · exact none_e h
      rw [slices_Equal_Vec_l1] at h
      refine Wp.seq ?_
      refine Wp.region ?_
      refine GoT.q rfl (QEx.lssK rfl (.tmp rfl) (.tmp rfl)) rfl (lt_b rfl) ?_
      refine GoT.nil ?_
      refine Wp.seq ?_
      refine Wp.condS h rfl (fun h => ?_) (fun h => ?_)
      · refine Wp.skip ?_
        refine Wp.seq ?_
        refine Wp.block ?_
        refine Wp.seq ?_
        refine Wp.region ?_
        refine GoT.q rfl (QEx.move rfl (.tmp rfl)) rfl (lt_b rfl) ?_
        refine GoT.q rfl (QEx.assign rfl (.tmp rfl)) rfl (lt_b rfl) ?_
        refine GoT.nil ?_
        refine chk_e h fun c2 h => ?_
        refine chk_e h fun c3 h => ?_
        refine Wp.seq ?_
        refine Wp.drawn2 (n0 := 9) [6, 8, 11, 16, 20] mixed ?_
        refine GoD.q rfl (QEx.move rfl (.tmp rfl)) rfl (lt_b rfl) ?_
        refine GoD.q rfl (QEx.move rfl (.tmp rfl)) rfl (lt_b rfl) ?_
        refine GoD.q rfl (QEx.as (.cptr (Vec.cells (ix s1 v1))) (QEx.idxL (E := Vec.av) rfl et35 (.tmp rfl) (.tmp rfl) c2)) rfl (lt_b rfl) ?_
        refine GoD.q rfl (QEx.ldC (x := (Vec.av (ix s1 v1))) rfl ag24 ts24 (.tmp rfl) (.inl ⟨rfl, rfl, rfl⟩)) rfl (lt_b rfl) ?_
        refine GoD.q rfl (QEx.move rfl (.tmp rfl)) rfl (lt_b rfl) ?_
        refine GoD.q rfl (QEx.move rfl (.tmp rfl)) rfl (lt_b rfl) ?_
        refine GoD.q rfl (QEx.as (.cptr (Vec.cells (ix s2 v1))) (QEx.idxL (E := Vec.av) rfl et35 (.tmp rfl) (.tmp rfl) c3)) rfl (lt_b rfl) ?_
        refine GoD.q rfl (QEx.ldC (x := (Vec.av (ix s2 v1))) rfl ag24 ts24 (.tmp rfl) (.inl ⟨rfl, rfl, rfl⟩)) rfl (lt_b rfl) ?_
        refine GoD.q rfl (QEx.neqA rfl eq24 (.tmp rfl) (.tmp rfl)) rfl (lt_b rfl) ?_
        refine GoD.nil ⟨by kernel_rfl, by kernel_rfl, by kernel_rfl, by kernel_rfl, by kernel_rfl, ?_⟩
        refine GoT.nil ?_
        refine Wp.condS h rfl (fun h => ?_) (fun h => ?_)
        · refine Wp.seq ?_
          refine Wp.region ?_
          refine GoT.q rfl (QEx.as (boolAV false) (QEx.assign rfl .con)) rfl (lt_b rfl) ?_
          refine GoT.nil ?_
          refine Wp.ret ?_
          cases h
          exact LeafQ.ret [] (by decide) (.cons (.tmp rfl) .nil) rfl
        · refine Wp.skip ?_
          refine let_e h fun x4 hx4 h => ?_
          refine Wp.region ?_
          refine GoT.q rfl (QEx.addK rfl (.tmp rfl) .con) rfl (lt_b rfl) ?_
          refine GoT.q rfl (QEx.eq (QEx.move rfl (.tmp rfl)) (congrArg iAV hx4)) rfl (lt_b rfl) ?_
          refine GoT.nil ?_
          exact Round1.mk x4 [] [] h (LS.to.mk (.b rfl rfl (.b rfl rfl (.b rfl rfl (.b rfl rfl .n)))) .n rfl)
      · refine Wp.exit ?_
        exact Joined0.mk [] [] h (LS.to.mk .n .n rfl)
theorem shape_Equal_ok {a : Shape} {b : Shape} {r : Bool} (h : shape_Equal a b = some r) : FnR Try.prog 51 [(Shape.av a), (Shape.av b)] (boolAV r) := by
  refine FnR.intro' (fn := Try.f51) (N := 24) Try.func51 rfl rfl (Nat.le_of_ble_eq_true rfl) [2, 3] ?_
  refine Wp.seq ?_
  refine Wp.region ?_
  refine GoT.a rfl (AEx.bx (Z := (Shape.cells a)) rfl (.tmp rfl) rfl rfl rfl rfl) rfl (lt_b rfl) ?_
  refine GoT.a rfl (AEx.bx (Z := (Shape.cells b)) rfl (.tmp rfl) rfl rfl rfl rfl) rfl (lt_b rfl) ?_
  refine GoT.q rfl (QEx.as (boolAV false) (QEx.assign rfl .con)) rfl (lt_b rfl) ?_
  refine GoT.nil ?_
  refine bind_e h fun r1 hr1 h => ?_
  refine let_e h fun x2 hx2 h => ?_
  refine Wp.seq ?_
  refine Wp.region ?_
  refine GoT.q rfl (QEx.fldP 0 rfl Try.underlying37 rfl ts34 rfl (.tmp rfl) rfl) rfl (lt_b rfl) ?_
  refine GoT.qr rfl rfl (QEx.ldP1 (Shape.cells a) (iAV a.Kind) rfl ag34 (.tmp rfl) rfl) rfl (lt_b rfl) ?_
  refine GoT.q rfl (QEx.fldP 0 rfl Try.underlying37 rfl ts34 rfl (.tmp rfl) rfl) rfl (lt_b rfl) ?_
  refine GoT.qr rfl rfl (QEx.ldP1 (Shape.cells b) (iAV b.Kind) rfl ag34 (.tmp rfl) rfl) rfl (lt_b rfl) ?_
  refine GoT.q rfl (QEx.eqlK rfl (.tmp rfl) (.tmp rfl)) rfl (lt_b rfl) ?_
  refine GoT.q rfl (QEx.move rfl (.tmp rfl)) rfl (lt_b rfl) ?_
  refine GoT.g rfl rfl rfl (fun hg => QEx.fldP 1 rfl Try.underlying37 rfl ts3 rfl (.tmp rfl) rfl) rfl (lt_b rfl) ?_
  refine GoT.gr rfl rfl rfl rfl (fun hg => QEx.ldP1 (Shape.cells a) (iAV a.Radius) rfl ag3 (.opt (.tmp rfl) hg) rfl) rfl (lt_b rfl) ?_
  refine GoT.g rfl rfl rfl (fun hg => QEx.fldP 1 rfl Try.underlying37 rfl ts3 rfl (.tmp rfl) rfl) rfl (lt_b rfl) ?_
  refine GoT.gr rfl rfl rfl rfl (fun hg => QEx.ldP1 (Shape.cells b) (iAV b.Radius) rfl ag3 (.opt (.tmp rfl) hg) rfl) rfl (lt_b rfl) ?_
  refine GoT.g rfl rfl rfl (fun hg => QEx.eqlK rfl (.opt (.tmp rfl) hg) (.opt (.tmp rfl) hg)) rfl (lt_b rfl) ?_
  refine GoT.q rfl (QEx.pickK rfl (.tmp rfl) (fun hp => (.opt (.tmp rfl) (beq_t hp))) (fun hp => .con)) rfl (lt_b rfl) ?_
  refine GoT.q rfl (QEx.move rfl (.tmp rfl)) rfl (lt_b rfl) ?_
  refine GoT.g rfl rfl rfl (fun hg => QEx.fldP 2 rfl Try.underlying37 rfl ts35 rfl (.tmp rfl) rfl) rfl (lt_b rfl) ?_
  refine GoT.gr rfl rfl rfl rfl (fun hg => QEx.ldP1 (Shape.cells a) ((slAV 2 Vec.av) a.Vertices) rfl ag35 (.opt (.tmp rfl) hg) rfl) rfl (lt_b rfl) ?_
  refine GoT.g rfl rfl rfl (fun hg => QEx.fldP 2 rfl Try.underlying37 rfl ts35 rfl (.tmp rfl) rfl) rfl (lt_b rfl) ?_
  refine GoT.gr rfl rfl rfl rfl (fun hg => QEx.ldP1 (Shape.cells b) ((slAV 2 Vec.av) b.Vertices) rfl ag35 (.opt (.tmp rfl) hg) rfl) rfl (lt_b rfl) ?_
  refine GoT.g rfl rfl rfl (fun hg => QEx.cal0 (r := (boolAV r1)) [((slAV 2 Vec.av) a.Vertices), ((slAV 2 Vec.av) b.Vertices)] rfl Try.call74 (.cons (.opt (.tmp rfl) hg) (.cons (.opt (.tmp rfl) hg) .nil)) (slices_Equal_Vec_ok (gcall hr1 hg)) rfl rfl) rfl (lt_b rfl) ?_
  refine GoT.q rfl (QEx.pickK rfl (.tmp rfl) (fun hp => (.opt (.tmp rfl) (beq_t hp))) (fun hp => .con)) rfl (lt_b rfl) ?_
  refine GoT.q rfl (QEx.eq (QEx.assign rfl (.tmp rfl)) (congrArg boolAV hx2)) rfl (lt_b rfl) ?_
  refine GoT.nil ?_
  refine Wp.ret ?_
  cases h
  exact LeafQ.ret [] (by decide) (.cons (.tmp rfl) .nil) rfl
theorem body_equalFixtures_ok {a : Fixture} {b : Fixture} {r : Bool} (h : body_equalFixtures a b = some r) : FnR Try.prog 25 [(Fixture.av a), (Fixture.av b)] (boolAV r) := by
  refine FnR.intro' (fn := Try.f25) (N := 63) Try.func25 rfl rfl (Nat.le_of_ble_eq_true rfl) [2, 3] ?_
  refine Wp.seq ?_
  refine Wp.region ?_
  refine GoT.a rfl (AEx.bx (Z := (Fixture.cells a)) rfl (.tmp rfl) rfl rfl rfl rfl) rfl (lt_b rfl) ?_
  refine GoT.a rfl (AEx.bx (Z := (Fixture.cells b)) rfl (.tmp rfl) rfl rfl rfl rfl) rfl (lt_b rfl) ?_
  refine GoT.q rfl (QEx.as (boolAV false) (QEx.assign rfl .con)) rfl (lt_b rfl) ?_
  refine GoT.nil ?_
  refine let_e h fun x1 hx1 h => ?_
  refine Wp.seq ?_
  refine Wp.region ?_
  refine GoT.q rfl (QEx.fldP 3 rfl Try.underlying39 rfl ts3 rfl (.tmp rfl) rfl) rfl (lt_b rfl) ?_
  refine GoT.qr rfl rfl (QEx.ldP1 (Fixture.cells a) (iAV a.Density) rfl ag3 (.tmp rfl) rfl) rfl (lt_b rfl) ?_
  refine GoT.q rfl (QEx.fldP 3 rfl Try.underlying39 rfl ts3 rfl (.tmp rfl) rfl) rfl (lt_b rfl) ?_
  refine GoT.qr rfl rfl (QEx.ldP1 (Fixture.cells b) (iAV b.Density) rfl ag3 (.tmp rfl) rfl) rfl (lt_b rfl) ?_
  refine GoT.q rfl (QEx.eqlK rfl (.tmp rfl) (.tmp rfl)) rfl (lt_b rfl) ?_
  refine GoT.q rfl (QEx.move rfl (.tmp rfl)) rfl (lt_b rfl) ?_
  refine GoT.g rfl rfl rfl (fun hg => QEx.fldP 4 rfl Try.underlying39 rfl ts3 rfl (.tmp rfl) rfl) rfl (lt_b rfl) ?_
  refine GoT.gr rfl rfl rfl rfl (fun hg => QEx.ldP1 (Fixture.cells a) (iAV a.Friction) rfl ag3 (.opt (.tmp rfl) hg) rfl) rfl (lt_b rfl) ?_
  refine GoT.g rfl rfl rfl (fun hg => QEx.fldP 4 rfl Try.underlying39 rfl ts3 rfl (.tmp rfl) rfl) rfl (lt_b rfl) ?_
  refine GoT.gr rfl rfl rfl rfl (fun hg => QEx.ldP1 (Fixture.cells b) (iAV b.Friction) rfl ag3 (.opt (.tmp rfl) hg) rfl) rfl (lt_b rfl) ?_
  refine GoT.g rfl rfl rfl (fun hg => QEx.eqlK rfl (.opt (.tmp rfl) hg) (.opt (.tmp rfl) hg)) rfl (lt_b rfl) ?_
  refine GoT.q rfl (QEx.pickK rfl (.tmp rfl) (fun hp => (.opt (.tmp rfl) (beq_t hp))) (fun hp => .con)) rfl (lt_b rfl) ?_
  refine GoT.q rfl (QEx.move rfl (.tmp rfl)) rfl (lt_b rfl) ?_
  refine GoT.g rfl rfl rfl (fun hg => QEx.fldP 5 rfl Try.underlying39 rfl ts3 rfl (.tmp rfl) rfl) rfl (lt_b rfl) ?_
  refine GoT.gr rfl rfl rfl rfl (fun hg => QEx.ldP1 (Fixture.cells a) (iAV a.Restitution) rfl ag3 (.opt (.tmp rfl) hg) rfl) rfl (lt_b rfl) ?_
  refine GoT.g rfl rfl rfl (fun hg => QEx.fldP 5 rfl Try.underlying39 rfl ts3 rfl (.tmp rfl) rfl) rfl (lt_b rfl) ?_
  refine GoT.gr rfl rfl rfl rfl (fun hg => QEx.ldP1 (Fixture.cells b) (iAV b.Restitution) rfl ag3 (.opt (.tmp rfl) hg) rfl) rfl (lt_b rfl) ?_
  refine GoT.g rfl rfl rfl (fun hg => QEx.eqlK rfl (.opt (.tmp rfl) hg) (.opt (.tmp rfl) hg)) rfl (lt_b rfl) ?_
  refine GoT.q rfl (QEx.pickK rfl (.tmp rfl) (fun hp => (.opt (.tmp rfl) (beq_t hp))) (fun hp => .con)) rfl (lt_b rfl) ?_
  refine GoT.q rfl (QEx.eq (QEx.assign rfl (.tmp rfl)) (congrArg boolAV hx1)) rfl (lt_b rfl) ?_
  refine GoT.nil ?_
  refine let_e h fun x2 hx2 h => ?_
  refine Wp.seq ?_
  refine Wp.region ?_
  refine GoT.q rfl (QEx.fldP 6 rfl Try.underlying39 rfl ts4 rfl (.tmp rfl) rfl) rfl (lt_b rfl) ?_
  refine GoT.qr rfl rfl (QEx.ldP1 (Fixture.cells a) (boolAV a.Sensor) rfl ag4 (.tmp rfl) rfl) rfl (lt_b rfl) ?_
  refine GoT.q rfl (QEx.fldP 6 rfl Try.underlying39 rfl ts4 rfl (.tmp rfl) rfl) rfl (lt_b rfl) ?_
  refine GoT.qr rfl rfl (QEx.ldP1 (Fixture.cells b) (boolAV b.Sensor) rfl ag4 (.tmp rfl) rfl) rfl (lt_b rfl) ?_
  refine GoT.q rfl (QEx.eqlB rfl (.tmp rfl) (.tmp rfl) Try.underlying4) rfl (lt_b rfl) ?_
  refine GoT.q rfl (QEx.move rfl (.tmp rfl)) rfl (lt_b rfl) ?_
  refine GoT.g rfl rfl rfl (fun hg => QEx.fldP 7 rfl Try.underlying39 rfl ts3 rfl (.tmp rfl) rfl) rfl (lt_b rfl) ?_
  refine GoT.gr rfl rfl rfl rfl (fun hg => QEx.ldP1 (Fixture.cells a) (iAV a.Category) rfl ag3 (.opt (.tmp rfl) hg) rfl) rfl (lt_b rfl) ?_
  refine GoT.g rfl rfl rfl (fun hg => QEx.fldP 7 rfl Try.underlying39 rfl ts3 rfl (.tmp rfl) rfl) rfl (lt_b rfl) ?_
  refine GoT.gr rfl rfl rfl rfl (fun hg => QEx.ldP1 (Fixture.cells b) (iAV b.Category) rfl ag3 (.opt (.tmp rfl) hg) rfl) rfl (lt_b rfl) ?_
  refine GoT.g rfl rfl rfl (fun hg => QEx.eqlK rfl (.opt (.tmp rfl) hg) (.opt (.tmp rfl) hg)) rfl (lt_b rfl) ?_
  refine GoT.q rfl (QEx.pickK rfl (.tmp rfl) (fun hp => (.opt (.tmp rfl) (beq_t hp))) (fun hp => .con)) rfl (lt_b rfl) ?_
  refine GoT.q rfl (QEx.move rfl (.tmp rfl)) rfl (lt_b rfl) ?_
  refine GoT.g rfl rfl rfl (fun hg => QEx.fldP 8 rfl Try.underlying39 rfl ts3 rfl (.tmp rfl) rfl) rfl (lt_b rfl) ?_
  refine GoT.gr rfl rfl rfl rfl (fun hg => QEx.ldP1 (Fixture.cells a) (iAV a.Mask) rfl ag3 (.opt (.tmp rfl) hg) rfl) rfl (lt_b rfl) ?_
  refine GoT.g rfl rfl rfl (fun hg => QEx.fldP 8 rfl Try.underlying39 rfl ts3 rfl (.tmp rfl) rfl) rfl (lt_b rfl) ?_
  refine GoT.gr rfl rfl rfl rfl (fun hg => QEx.ldP1 (Fixture.cells b) (iAV b.Mask) rfl ag3 (.opt (.tmp rfl) hg) rfl) rfl (lt_b rfl) ?_
  refine GoT.g rfl rfl rfl (fun hg => QEx.eqlK rfl (.opt (.tmp rfl) hg) (.opt (.tmp rfl) hg)) rfl (lt_b rfl) ?_
  refine GoT.q rfl (QEx.pickK rfl (.tmp rfl) (fun hp => (.opt (.tmp rfl) (beq_t hp))) (fun hp => .con)) rfl (lt_b rfl) ?_
  refine GoT.q rfl (QEx.move rfl (.tmp rfl)) rfl (lt_b rfl) ?_
  refine GoT.g rfl rfl rfl (fun hg => QEx.fldP 9 rfl Try.underlying39 rfl ts3 rfl (.tmp rfl) rfl) rfl (lt_b rfl) ?_
  refine GoT.gr rfl rfl rfl rfl (fun hg => QEx.ldP1 (Fixture.cells a) (iAV a.Group) rfl ag3 (.opt (.tmp rfl) hg) rfl) rfl (lt_b rfl) ?_
  refine GoT.g rfl rfl rfl (fun hg => QEx.fldP 9 rfl Try.underlying39 rfl ts3 rfl (.tmp rfl) rfl) rfl (lt_b rfl) ?_
  refine GoT.gr rfl rfl rfl rfl (fun hg => QEx.ldP1 (Fixture.cells b) (iAV b.Group) rfl ag3 (.opt (.tmp rfl) hg) rfl) rfl (lt_b rfl) ?_
  refine GoT.g rfl rfl rfl (fun hg => QEx.eqlK rfl (.opt (.tmp rfl) hg) (.opt (.tmp rfl) hg)) rfl (lt_b rfl) ?_
  refine GoT.q rfl (QEx.pickK rfl (.tmp rfl) (fun hp => (.opt (.tmp rfl) (beq_t hp))) (fun hp => .con)) rfl (lt_b rfl) ?_
  refine GoT.q rfl (QEx.eq (QEx.assign rfl (.tmp rfl)) (congrArg boolAV hx2)) rfl (lt_b rfl) ?_
  refine GoT.nil ?_
  refine bind_e h fun r3 hr3 h => ?_
  refine let_e h fun x4 hx4 h => ?_
  refine Wp.seq ?_
  refine Wp.region ?_
  refine GoT.q rfl (QEx.fldP 0 rfl Try.underlying39 rfl ts37 rfl (.tmp rfl) rfl) rfl (lt_b rfl) ?_
  refine GoT.qr rfl rfl (QEx.ldP (Fixture.cells a) (Shape.av a.Shape) rfl ag37 ts37 (.tmp rfl) (le_b rfl) rfl) rfl (lt_b rfl) ?_
  refine GoT.q rfl (QEx.fldP 0 rfl Try.underlying39 rfl ts37 rfl (.tmp rfl) rfl) rfl (lt_b rfl) ?_
  refine GoT.qr rfl rfl (QEx.ldP (Fixture.cells b) (Shape.av b.Shape) rfl ag37 ts37 (.tmp rfl) (le_b rfl) rfl) rfl (lt_b rfl) ?_
  refine GoT.q rfl (QEx.cal0 (r := (boolAV r3)) [(Shape.av a.Shape), (Shape.av b.Shape)] rfl Try.call51 (.cons (.tmp rfl) (.cons (.tmp rfl) .nil)) (shape_Equal_ok hr3) rfl rfl) rfl (lt_b rfl) ?_
  refine GoT.q rfl (QEx.move rfl (.tmp rfl)) rfl (lt_b rfl) ?_
  refine GoT.g rfl rfl rfl (fun hg => QEx.move rfl (.tmp rfl)) rfl (lt_b rfl) ?_
  refine GoT.q rfl (QEx.pickK rfl (.tmp rfl) (fun hp => (.opt (.tmp rfl) (beq_t hp))) (fun hp => .con)) rfl (lt_b rfl) ?_
  refine GoT.q rfl (QEx.move rfl (.tmp rfl)) rfl (lt_b rfl) ?_
  refine GoT.g rfl rfl rfl (fun hg => QEx.move rfl (.tmp rfl)) rfl (lt_b rfl) ?_
  refine GoT.q rfl (QEx.pickK rfl (.tmp rfl) (fun hp => (.opt (.tmp rfl) (beq_t hp))) (fun hp => .con)) rfl (lt_b rfl) ?_
  refine GoT.q rfl (QEx.eq (QEx.assign rfl (.tmp rfl)) (congrArg boolAV hx4)) rfl (lt_b rfl) ?_
  refine GoT.nil ?_
  refine Wp.ret ?_
  cases h
  exact LeafQ.ret [] (by decide) (.cons (.tmp rfl) .nil) rfl
theorem body_Equal_ok {a : Body} {b : Body} {r : Bool} (h : body_Equal a b = some r) : FnR Try.prog 10 [(Body.av a), (Body.av b)] (boolAV r) := by
  refine FnR.intro' (fn := Try.f10) (N := 146) Try.func10 rfl rfl (Nat.le_of_ble_eq_true rfl) [2, 3, 6] ?_
  refine Wp.seq ?_
  refine Wp.region ?_
  refine GoT.a rfl (AEx.bx (Z := (Body.cells a)) rfl (.tmp rfl) rfl rfl rfl rfl) rfl (lt_b rfl) ?_
  refine GoT.a rfl (AEx.bx (Z := (Body.cells b)) rfl (.tmp rfl) rfl rfl rfl rfl) rfl (lt_b rfl) ?_
  refine GoT.q rfl (QEx.as (boolAV false) (QEx.assign rfl .con)) rfl (lt_b rfl) ?_
  refine GoT.nil ?_
  refine Wp.seq ?_
  refine Wp.seq ?_
  refine Wp.region ?_
  refine GoT.q rfl (QEx.fldP 19 rfl Try.underlying29 rfl ts27 rfl (.tmp rfl) rfl) rfl (lt_b rfl) ?_
  refine GoT.qr rfl rfl (QEx.ldP1 (Body.cells a) ((slAV 10 Fixture.av) a.Fixtures) rfl ag27 (.tmp rfl) rfl) rfl (lt_b rfl) ?_
  refine GoT.q rfl (QEx.lenL rfl ⟨_, Try.underlying27⟩ (.tmp rfl)) rfl (lt_b rfl) ?_
  refine GoT.q rfl (QEx.fldP 19 rfl Try.underlying29 rfl ts27 rfl (.tmp rfl) rfl) rfl (lt_b rfl) ?_
  refine GoT.qr rfl rfl (QEx.ldP1 (Body.cells b) ((slAV 10 Fixture.av) b.Fixtures) rfl ag27 (.tmp rfl) rfl) rfl (lt_b rfl) ?_
  refine GoT.q rfl (QEx.lenL rfl ⟨_, Try.underlying27⟩ (.tmp rfl)) rfl (lt_b rfl) ?_
  refine GoT.q rfl (QEx.neqK rfl (.tmp rfl) (.tmp rfl)) rfl (lt_b rfl) ?_
  refine GoT.nil ?_
  refine Wp.condS h rfl (fun h => ?_) (fun h => ?_)
  · refine Wp.seq ?_
    refine Wp.region ?_
    refine GoT.q rfl (QEx.as (boolAV false) (QEx.assign rfl .con)) rfl (lt_b rfl) ?_
    refine GoT.nil ?_
    refine Wp.ret ?_
    cases h
    exact LeafQ.ret [] (by decide) (.cons (.tmp rfl) .nil) rfl
  · refine Wp.skip ?_
    refine Wp.join0 (⟨[(2, (.ptr 2 0)), (3, (.ptr 3 0))], [(2, .cells (Body.cells a)), (3, .cells (Body.cells b))], [6]⟩) ((body_Equal_j2 a b) = some r) ?_ ?_
    · intro h
      refine let_e h fun x7 hx7 h => ?_
      refine Wp.seq ?_
      refine Wp.region ?_
      refine GoT.q rfl (QEx.fldP 0 rfl Try.underlying29 rfl ts3 rfl (.tmp rfl) rfl) rfl (lt_b rfl) ?_
      refine GoT.qr rfl rfl (QEx.ldP1 (Body.cells a) (iAV a.ID) rfl ag3 (.tmp rfl) rfl) rfl (lt_b rfl) ?_
      refine GoT.q rfl (QEx.fldP 0 rfl Try.underlying29 rfl ts3 rfl (.tmp rfl) rfl) rfl (lt_b rfl) ?_
      refine GoT.qr rfl rfl (QEx.ldP1 (Body.cells b) (iAV b.ID) rfl ag3 (.tmp rfl) rfl) rfl (lt_b rfl) ?_
      refine GoT.q rfl (QEx.eqlK rfl (.tmp rfl) (.tmp rfl)) rfl (lt_b rfl) ?_
      refine GoT.q rfl (QEx.move rfl (.tmp rfl)) rfl (lt_b rfl) ?_
      refine GoT.g rfl rfl rfl (fun hg => QEx.fldP 1 rfl Try.underlying29 rfl ts22 rfl (.tmp rfl) rfl) rfl (lt_b rfl) ?_
      refine GoT.gr rfl rfl rfl rfl (fun hg => QEx.ldP1 (Body.cells a) (iAV a.Kind) rfl ag22 (.opt (.tmp rfl) hg) rfl) rfl (lt_b rfl) ?_
      refine GoT.g rfl rfl rfl (fun hg => QEx.fldP 1 rfl Try.underlying29 rfl ts22 rfl (.tmp rfl) rfl) rfl (lt_b rfl) ?_
      refine GoT.gr rfl rfl rfl rfl (fun hg => QEx.ldP1 (Body.cells b) (iAV b.Kind) rfl ag22 (.opt (.tmp rfl) hg) rfl) rfl (lt_b rfl) ?_
      refine GoT.g rfl rfl rfl (fun hg => QEx.eqlK rfl (.opt (.tmp rfl) hg) (.opt (.tmp rfl) hg)) rfl (lt_b rfl) ?_
      refine GoT.q rfl (QEx.pickK rfl (.tmp rfl) (fun hp => (.opt (.tmp rfl) (beq_t hp))) (fun hp => .con)) rfl (lt_b rfl) ?_
      refine GoT.q rfl (QEx.move rfl (.tmp rfl)) rfl (lt_b rfl) ?_
      refine GoT.g rfl rfl rfl (fun hg => QEx.fldP 2 rfl Try.underlying29 rfl ts26 rfl (.tmp rfl) rfl) rfl (lt_b rfl) ?_
      refine GoT.gr rfl rfl rfl rfl (fun hg => QEx.ldP (Body.cells a) (Transform.av a.Transform) rfl ag26 ts26 (.opt (.tmp rfl) hg) (le_b rfl) rfl) rfl (lt_b rfl) ?_
      refine GoT.g rfl rfl rfl (fun hg => QEx.fldP 2 rfl Try.underlying29 rfl ts26 rfl (.tmp rfl) rfl) rfl (lt_b rfl) ?_
      refine GoT.gr rfl rfl rfl rfl (fun hg => QEx.ldP (Body.cells b) (Transform.av b.Transform) rfl ag26 ts26 (.opt (.tmp rfl) hg) (le_b rfl) rfl) rfl (lt_b rfl) ?_
      refine GoT.g rfl rfl rfl (fun hg => QEx.eqlA rfl eq26 (.opt (.tmp rfl) hg) (.opt (.tmp rfl) hg)) rfl (lt_b rfl) ?_
      refine GoT.q rfl (QEx.pickK rfl (.tmp rfl) (fun hp => (.opt (.tmp rfl) (beq_t hp))) (fun hp => .con)) rfl (lt_b rfl) ?_
      refine GoT.q rfl (QEx.eq (QEx.assign rfl (.tmp rfl)) (congrArg boolAV hx7)) rfl (lt_b rfl) ?_
      refine GoT.nil ?_
      refine let_e h fun x8 hx8 h => ?_
      refine Wp.seq ?_
      refine Wp.region ?_
      refine GoT.q rfl (QEx.fldP 5 rfl Try.underlying29 rfl ts24 rfl (.tmp rfl) rfl) rfl (lt_b rfl) ?_
      refine GoT.qr rfl rfl (QEx.ldP (Body.cells a) (Vec.av a.Velocity) rfl ag24 ts24 (.tmp rfl) (le_b rfl) rfl) rfl (lt_b rfl) ?_
      refine GoT.q rfl (QEx.fldP 5 rfl Try.underlying29 rfl ts24 rfl (.tmp rfl) rfl) rfl (lt_b rfl) ?_
      refine GoT.qr rfl rfl (QEx.ldP (Body.cells b) (Vec.av b.Velocity) rfl ag24 ts24 (.tmp rfl) (le_b rfl) rfl) rfl (lt_b rfl) ?_
      refine GoT.q rfl (QEx.eqlA rfl eq24 (.tmp rfl) (.tmp rfl)) rfl (lt_b rfl) ?_
      refine GoT.q rfl (QEx.move rfl (.tmp rfl)) rfl (lt_b rfl) ?_
      refine GoT.g rfl rfl rfl (fun hg => QEx.fldP 7 rfl Try.underlying29 rfl ts3 rfl (.tmp rfl) rfl) rfl (lt_b rfl) ?_
      refine GoT.gr rfl rfl rfl rfl (fun hg => QEx.ldP1 (Body.cells a) (iAV a.AngularVelocity) rfl ag3 (.opt (.tmp rfl) hg) rfl) rfl (lt_b rfl) ?_
      refine GoT.g rfl rfl rfl (fun hg => QEx.fldP 7 rfl Try.underlying29 rfl ts3 rfl (.tmp rfl) rfl) rfl (lt_b rfl) ?_
      refine GoT.gr rfl rfl rfl rfl (fun hg => QEx.ldP1 (Body.cells b) (iAV b.AngularVelocity) rfl ag3 (.opt (.tmp rfl) hg) rfl) rfl (lt_b rfl) ?_
      refine GoT.g rfl rfl rfl (fun hg => QEx.eqlK rfl (.opt (.tmp rfl) hg) (.opt (.tmp rfl) hg)) rfl (lt_b rfl) ?_
      refine GoT.q rfl (QEx.pickK rfl (.tmp rfl) (fun hp => (.opt (.tmp rfl) (beq_t hp))) (fun hp => .con)) rfl (lt_b rfl) ?_
      refine GoT.q rfl (QEx.eq (QEx.assign rfl (.tmp rfl)) (congrArg boolAV hx8)) rfl (lt_b rfl) ?_
      refine GoT.nil ?_
      refine let_e h fun x9 hx9 h => ?_
      refine Wp.seq ?_
      refine Wp.region ?_
      refine GoT.q rfl (QEx.fldP 8 rfl Try.underlying29 rfl ts24 rfl (.tmp rfl) rfl) rfl (lt_b rfl) ?_
      refine GoT.qr rfl rfl (QEx.ldP (Body.cells a) (Vec.av a.Force) rfl ag24 ts24 (.tmp rfl) (le_b rfl) rfl) rfl (lt_b rfl) ?_
      refine GoT.q rfl (QEx.fldP 8 rfl Try.underlying29 rfl ts24 rfl (.tmp rfl) rfl) rfl (lt_b rfl) ?_
      refine GoT.qr rfl rfl (QEx.ldP (Body.cells b) (Vec.av b.Force) rfl ag24 ts24 (.tmp rfl) (le_b rfl) rfl) rfl (lt_b rfl) ?_
      refine GoT.q rfl (QEx.eqlA rfl eq24 (.tmp rfl) (.tmp rfl)) rfl (lt_b rfl) ?_
      refine GoT.q rfl (QEx.move rfl (.tmp rfl)) rfl (lt_b rfl) ?_
      refine GoT.g rfl rfl rfl (fun hg => QEx.fldP 10 rfl Try.underlying29 rfl ts3 rfl (.tmp rfl) rfl) rfl (lt_b rfl) ?_
      refine GoT.gr rfl rfl rfl rfl (fun hg => QEx.ldP1 (Body.cells a) (iAV a.Torque) rfl ag3 (.opt (.tmp rfl) hg) rfl) rfl (lt_b rfl) ?_
      refine GoT.g rfl rfl rfl (fun hg => QEx.fldP 10 rfl Try.underlying29 rfl ts3 rfl (.tmp rfl) rfl) rfl (lt_b rfl) ?_
      refine GoT.gr rfl rfl rfl rfl (fun hg => QEx.ldP1 (Body.cells b) (iAV b.Torque) rfl ag3 (.opt (.tmp rfl) hg) rfl) rfl (lt_b rfl) ?_
      refine GoT.g rfl rfl rfl (fun hg => QEx.eqlK rfl (.opt (.tmp rfl) hg) (.opt (.tmp rfl) hg)) rfl (lt_b rfl) ?_
      refine GoT.q rfl (QEx.pickK rfl (.tmp rfl) (fun hp => (.opt (.tmp rfl) (beq_t hp))) (fun hp => .con)) rfl (lt_b rfl) ?_
      refine GoT.q rfl (QEx.eq (QEx.assign rfl (.tmp rfl)) (congrArg boolAV hx9)) rfl (lt_b rfl) ?_
      refine GoT.nil ?_
      refine let_e h fun x10 hx10 h => ?_
      refine Wp.seq ?_
      refine Wp.region ?_
      refine GoT.q rfl (QEx.fldP 11 rfl Try.underlying29 rfl ts3 rfl (.tmp rfl) rfl) rfl (lt_b rfl) ?_
      refine GoT.qr rfl rfl (QEx.ldP1 (Body.cells a) (iAV a.LinearDamping) rfl ag3 (.tmp rfl) rfl) rfl (lt_b rfl) ?_
      refine GoT.q rfl (QEx.fldP 11 rfl Try.underlying29 rfl ts3 rfl (.tmp rfl) rfl) rfl (lt_b rfl) ?_
      refine GoT.qr rfl rfl (QEx.ldP1 (Body.cells b) (iAV b.LinearDamping) rfl ag3 (.tmp rfl) rfl) rfl (lt_b rfl) ?_
      refine GoT.q rfl (QEx.eqlK rfl (.tmp rfl) (.tmp rfl)) rfl (lt_b rfl) ?_
      refine GoT.q rfl (QEx.move rfl (.tmp rfl)) rfl (lt_b rfl) ?_
      refine GoT.g rfl rfl rfl (fun hg => QEx.fldP 12 rfl Try.underlying29 rfl ts3 rfl (.tmp rfl) rfl) rfl (lt_b rfl) ?_
      refine GoT.gr rfl rfl rfl rfl (fun hg => QEx.ldP1 (Body.cells a) (iAV a.AngularDamping) rfl ag3 (.opt (.tmp rfl) hg) rfl) rfl (lt_b rfl) ?_
      refine GoT.g rfl rfl rfl (fun hg => QEx.fldP 12 rfl Try.underlying29 rfl ts3 rfl (.tmp rfl) rfl) rfl (lt_b rfl) ?_
      refine GoT.gr rfl rfl rfl rfl (fun hg => QEx.ldP1 (Body.cells b) (iAV b.AngularDamping) rfl ag3 (.opt (.tmp rfl) hg) rfl) rfl (lt_b rfl) ?_
      refine GoT.g rfl rfl rfl (fun hg => QEx.eqlK rfl (.opt (.tmp rfl) hg) (.opt (.tmp rfl) hg)) rfl (lt_b rfl) ?_
      refine GoT.q rfl (QEx.pickK rfl (.tmp rfl) (fun hp => (.opt (.tmp rfl) (beq_t hp))) (fun hp => .con)) rfl (lt_b rfl) ?_
      refine GoT.q rfl (QEx.move rfl (.tmp rfl)) rfl (lt_b rfl) ?_
      refine GoT.g rfl rfl rfl (fun hg => QEx.fldP 13 rfl Try.underlying29 rfl ts3 rfl (.tmp rfl) rfl) rfl (lt_b rfl) ?_
      refine GoT.gr rfl rfl rfl rfl (fun hg => QEx.ldP1 (Body.cells a) (iAV a.GravityScale) rfl ag3 (.opt (.tmp rfl) hg) rfl) rfl (lt_b rfl) ?_
      refine GoT.g rfl rfl rfl (fun hg => QEx.fldP 13 rfl Try.underlying29 rfl ts3 rfl (.tmp rfl) rfl) rfl (lt_b rfl) ?_
      refine GoT.gr rfl rfl rfl rfl (fun hg => QEx.ldP1 (Body.cells b) (iAV b.GravityScale) rfl ag3 (.opt (.tmp rfl) hg) rfl) rfl (lt_b rfl) ?_
      refine GoT.g rfl rfl rfl (fun hg => QEx.eqlK rfl (.opt (.tmp rfl) hg) (.opt (.tmp rfl) hg)) rfl (lt_b rfl) ?_
      refine GoT.q rfl (QEx.pickK rfl (.tmp rfl) (fun hp => (.opt (.tmp rfl) (beq_t hp))) (fun hp => .con)) rfl (lt_b rfl) ?_
      refine GoT.q rfl (QEx.eq (QEx.assign rfl (.tmp rfl)) (congrArg boolAV hx10)) rfl (lt_b rfl) ?_
      refine GoT.nil ?_
      refine let_e h fun x11 hx11 h => ?_
      refine Wp.seq ?_
      refine Wp.region ?_
      refine GoT.q rfl (QEx.fldP 14 rfl Try.underlying29 rfl ts4 rfl (.tmp rfl) rfl) rfl (lt_b rfl) ?_
      refine GoT.qr rfl rfl (QEx.ldP1 (Body.cells a) (boolAV a.Bullet) rfl ag4 (.tmp rfl) rfl) rfl (lt_b rfl) ?_
      refine GoT.q rfl (QEx.fldP 14 rfl Try.underlying29 rfl ts4 rfl (.tmp rfl) rfl) rfl (lt_b rfl) ?_
      refine GoT.qr rfl rfl (QEx.ldP1 (Body.cells b) (boolAV b.Bullet) rfl ag4 (.tmp rfl) rfl) rfl (lt_b rfl) ?_
      refine GoT.q rfl (QEx.eqlB rfl (.tmp rfl) (.tmp rfl) Try.underlying4) rfl (lt_b rfl) ?_
      refine GoT.q rfl (QEx.move rfl (.tmp rfl)) rfl (lt_b rfl) ?_
      refine GoT.g rfl rfl rfl (fun hg => QEx.fldP 15 rfl Try.underlying29 rfl ts4 rfl (.tmp rfl) rfl) rfl (lt_b rfl) ?_
      refine GoT.gr rfl rfl rfl rfl (fun hg => QEx.ldP1 (Body.cells a) (boolAV a.FixedRotation) rfl ag4 (.opt (.tmp rfl) hg) rfl) rfl (lt_b rfl) ?_
      refine GoT.g rfl rfl rfl (fun hg => QEx.fldP 15 rfl Try.underlying29 rfl ts4 rfl (.tmp rfl) rfl) rfl (lt_b rfl) ?_
      refine GoT.gr rfl rfl rfl rfl (fun hg => QEx.ldP1 (Body.cells b) (boolAV b.FixedRotation) rfl ag4 (.opt (.tmp rfl) hg) rfl) rfl (lt_b rfl) ?_
      refine GoT.g rfl rfl rfl (fun hg => QEx.eqlB rfl (.opt (.tmp rfl) hg) (.opt (.tmp rfl) hg) Try.underlying4) rfl (lt_b rfl) ?_
      refine GoT.q rfl (QEx.pickK rfl (.tmp rfl) (fun hp => (.opt (.tmp rfl) (beq_t hp))) (fun hp => .con)) rfl (lt_b rfl) ?_
      refine GoT.q rfl (QEx.move rfl (.tmp rfl)) rfl (lt_b rfl) ?_
      refine GoT.g rfl rfl rfl (fun hg => QEx.fldP 16 rfl Try.underlying29 rfl ts4 rfl (.tmp rfl) rfl) rfl (lt_b rfl) ?_
      refine GoT.gr rfl rfl rfl rfl (fun hg => QEx.ldP1 (Body.cells a) (boolAV a.NoSleep) rfl ag4 (.opt (.tmp rfl) hg) rfl) rfl (lt_b rfl) ?_
      refine GoT.g rfl rfl rfl (fun hg => QEx.fldP 16 rfl Try.underlying29 rfl ts4 rfl (.tmp rfl) rfl) rfl (lt_b rfl) ?_
      refine GoT.gr rfl rfl rfl rfl (fun hg => QEx.ldP1 (Body.cells b) (boolAV b.NoSleep) rfl ag4 (.opt (.tmp rfl) hg) rfl) rfl (lt_b rfl) ?_
      refine GoT.g rfl rfl rfl (fun hg => QEx.eqlB rfl (.opt (.tmp rfl) hg) (.opt (.tmp rfl) hg) Try.underlying4) rfl (lt_b rfl) ?_
      refine GoT.q rfl (QEx.pickK rfl (.tmp rfl) (fun hp => (.opt (.tmp rfl) (beq_t hp))) (fun hp => .con)) rfl (lt_b rfl) ?_
      refine GoT.q rfl (QEx.eq (QEx.assign rfl (.tmp rfl)) (congrArg boolAV hx11)) rfl (lt_b rfl) ?_
      refine GoT.nil ?_
      refine let_e h fun x12 hx12 h => ?_
      refine Wp.seq ?_
      refine Wp.region ?_
      refine GoT.q rfl (QEx.fldP 17 rfl Try.underlying29 rfl ts4 rfl (.tmp rfl) rfl) rfl (lt_b rfl) ?_
      refine GoT.qr rfl rfl (QEx.ldP1 (Body.cells a) (boolAV a.Asleep) rfl ag4 (.tmp rfl) rfl) rfl (lt_b rfl) ?_
      refine GoT.q rfl (QEx.fldP 17 rfl Try.underlying29 rfl ts4 rfl (.tmp rfl) rfl) rfl (lt_b rfl) ?_
      refine GoT.qr rfl rfl (QEx.ldP1 (Body.cells b) (boolAV b.Asleep) rfl ag4 (.tmp rfl) rfl) rfl (lt_b rfl) ?_
      refine GoT.q rfl (QEx.eqlB rfl (.tmp rfl) (.tmp rfl) Try.underlying4) rfl (lt_b rfl) ?_
      refine GoT.q rfl (QEx.move rfl (.tmp rfl)) rfl (lt_b rfl) ?_
      refine GoT.g rfl rfl rfl (fun hg => QEx.fldP 18 rfl Try.underlying29 rfl ts3 rfl (.tmp rfl) rfl) rfl (lt_b rfl) ?_
      refine GoT.gr rfl rfl rfl rfl (fun hg => QEx.ldP1 (Body.cells a) (iAV a.IdleSteps) rfl ag3 (.opt (.tmp rfl) hg) rfl) rfl (lt_b rfl) ?_
      refine GoT.g rfl rfl rfl (fun hg => QEx.fldP 18 rfl Try.underlying29 rfl ts3 rfl (.tmp rfl) rfl) rfl (lt_b rfl) ?_
      refine GoT.gr rfl rfl rfl rfl (fun hg => QEx.ldP1 (Body.cells b) (iAV b.IdleSteps) rfl ag3 (.opt (.tmp rfl) hg) rfl) rfl (lt_b rfl) ?_
      refine GoT.g rfl rfl rfl (fun hg => QEx.eqlK rfl (.opt (.tmp rfl) hg) (.opt (.tmp rfl) hg)) rfl (lt_b rfl) ?_
      refine GoT.q rfl (QEx.pickK rfl (.tmp rfl) (fun hp => (.opt (.tmp rfl) (beq_t hp))) (fun hp => .con)) rfl (lt_b rfl) ?_
      refine GoT.q rfl (QEx.eq (QEx.assign rfl (.tmp rfl)) (congrArg boolAV hx12)) rfl (lt_b rfl) ?_
      refine GoT.nil ?_
      refine let_e h fun x13 hx13 h => ?_
      refine Wp.seq ?_
      refine Wp.region ?_
      refine GoT.q rfl (QEx.move rfl (.tmp rfl)) rfl (lt_b rfl) ?_
      refine GoT.q rfl (QEx.move rfl (.tmp rfl)) rfl (lt_b rfl) ?_
      refine GoT.g rfl rfl rfl (fun hg => QEx.move rfl (.tmp rfl)) rfl (lt_b rfl) ?_
      refine GoT.q rfl (QEx.pickK rfl (.tmp rfl) (fun hp => (.opt (.tmp rfl) (beq_t hp))) (fun hp => .con)) rfl (lt_b rfl) ?_
      refine GoT.q rfl (QEx.move rfl (.tmp rfl)) rfl (lt_b rfl) ?_
      refine GoT.g rfl rfl rfl (fun hg => QEx.move rfl (.tmp rfl)) rfl (lt_b rfl) ?_
      refine GoT.q rfl (QEx.pickK rfl (.tmp rfl) (fun hp => (.opt (.tmp rfl) (beq_t hp))) (fun hp => .con)) rfl (lt_b rfl) ?_
      refine GoT.q rfl (QEx.move rfl (.tmp rfl)) rfl (lt_b rfl) ?_
      refine GoT.g rfl rfl rfl (fun hg => QEx.move rfl (.tmp rfl)) rfl (lt_b rfl) ?_
      refine GoT.q rfl (QEx.pickK rfl (.tmp rfl) (fun hp => (.opt (.tmp rfl) (beq_t hp))) (fun hp => .con)) rfl (lt_b rfl) ?_
      refine GoT.q rfl (QEx.move rfl (.tmp rfl)) rfl (lt_b rfl) ?_
      refine GoT.g rfl rfl rfl (fun hg => QEx.move rfl (.tmp rfl)) rfl (lt_b rfl) ?_
      refine GoT.q rfl (QEx.pickK rfl (.tmp rfl) (fun hp => (.opt (.tmp rfl) (beq_t hp))) (fun hp => .con)) rfl (lt_b rfl) ?_
      refine GoT.q rfl (QEx.move rfl (.tmp rfl)) rfl (lt_b rfl) ?_
      refine GoT.g rfl rfl rfl (fun hg => QEx.move rfl (.tmp rfl)) rfl (lt_b rfl) ?_
      refine GoT.q rfl (QEx.pickK rfl (.tmp rfl) (fun hp => (.opt (.tmp rfl) (beq_t hp))) (fun hp => .con)) rfl (lt_b rfl) ?_
      refine GoT.q rfl (QEx.eq (QEx.assign rfl (.tmp rfl)) (congrArg boolAV hx13)) rfl (lt_b rfl) ?_
      refine GoT.nil ?_
      refine Wp.ret ?_
      cases h
      exact LeafQ.ret [] (by decide) (.cons (.tmp rfl) .nil) rfl
    · refine Wp.seq ?_
      refine Wp.region ?_
      refine GoT.q rfl (QEx.fldP 19 rfl Try.underlying29 rfl ts27 rfl (.tmp rfl) rfl) rfl (lt_b rfl) ?_
      refine GoT.qr rfl rfl (QEx.ldP1 (Body.cells a) ((slAV 10 Fixture.av) a.Fixtures) rfl ag27 (.tmp rfl) rfl) rfl (lt_b rfl) ?_
      refine GoT.q rfl (QEx.lenL rfl ⟨_, Try.underlying27⟩ (.tmp rfl)) rfl (lt_b rfl) ?_
      refine GoT.q rfl (QEx.as (iAV 0) (QEx.move rfl .con)) rfl (lt_b rfl) ?_
      refine GoT.nil ?_
      refine Wp.block ?_
      refine Wp.loop1 (fun v1 => ⟨[(2, (.ptr 2 0)), (3, (.ptr 3 0)), (21, ((slAV 10 Fixture.av) a.Fixtures)), (22, (iAV ((a.Fixtures).length : Int))), (23, (iAV v1))], [(2, .cells (Body.cells a)), (3, .cells (Body.cells b))], [6]⟩) (fun n v1 => body_Equal_l1 a b (body_Equal_j2 a b) n v1 = some r) fuel 0 [] [] h (LS.to.mk (.r rfl rfl (.r rfl rfl (.b rfl rfl (.b rfl rfl (.b rfl rfl .n))))) (.b rfl rfl rfl (.b rfl rfl rfl .n)) rfl) ?_
      rintro (_ | n2) v1 h
      · exact none_e h
      rw [body_Equal_l1] at h
      refine Wp.seq ?_
      refine Wp.region ?_
      refine GoT.q rfl (QEx.lssK rfl (.tmp rfl) (.tmp rfl)) rfl (lt_b rfl) ?_
      refine GoT.nil ?_
      refine Wp.seq ?_
      refine Wp.condS h rfl (fun h => ?_) (fun h => ?_)
      · refine Wp.skip ?_
        refine Wp.seq ?_
        refine Wp.block ?_
        refine chk_e h fun c2 h => ?_
        refine let_e h fun x3 hx3 h => ?_
        refine Wp.seq ?_
        refine Wp.region ?_
        refine GoT.q rfl (QEx.move rfl (.tmp rfl)) rfl (lt_b rfl) ?_
        refine GoT.q rfl (QEx.as (.cptr (Fixture.cells (ix a.Fixtures v1))) (QEx.idxL (E := Fixture.av) rfl et27 (.tmp rfl) (.tmp rfl) c2)) rfl (lt_b rfl) ?_
        refine GoT.q rfl (QEx.ldC (x := (Fixture.av (ix a.Fixtures v1))) rfl ag39 ts39 (.tmp rfl) (.inl ⟨rfl, rfl, rfl⟩)) rfl (lt_b rfl) ?_
        refine GoT.a rfl (AEx.alZ rfl zt39 rfl rfl) rfl (lt_b rfl) ?_
        refine GoT.q rfl (QEx.assign rfl (.tmp rfl)) rfl (lt_b rfl) ?_
        refine GoT.s rfl (AEx.sto (Z := (Fixture.cells x3)) rfl rfl ts39 (.tmp rfl) rfl (.tmp rfl) rfl rfl (le_b rfl) (congrArg (fun (x : Fixture) => (Fixture.cells x)) hx3)) rfl ?_
        refine GoT.nil ?_
        refine chk_e h fun c4 h => ?_
        refine bind_e h fun r5 hr5 h => ?_
        refine Wp.seq ?_
        refine Wp.drawn2 (n0 := 8) [] mixed ?_
        refine GoD.qr rfl rfl (QEx.ldP (Fixture.cells x3) (Fixture.av x3) rfl ag39 ts39 (.tmp rfl) (le_b rfl) rfl) rfl (lt_b rfl) ?_
        refine GoD.q rfl (QEx.fldP 19 rfl Try.underlying29 rfl ts27 rfl (.tmp rfl) rfl) rfl (lt_b rfl) ?_
        refine GoD.qr rfl rfl (QEx.ldP1 (Body.cells b) ((slAV 10 Fixture.av) b.Fixtures) rfl ag27 (.tmp rfl) rfl) rfl (lt_b rfl) ?_
        refine GoD.q rfl (QEx.move rfl (.tmp rfl)) rfl (lt_b rfl) ?_
        refine GoD.q rfl (QEx.as (.cptr (Fixture.cells (ix b.Fixtures v1))) (QEx.idxL (E := Fixture.av) rfl et27 (.tmp rfl) (.tmp rfl) c4)) rfl (lt_b rfl) ?_
        refine GoD.q rfl (QEx.ldC (x := (Fixture.av (ix b.Fixtures v1))) rfl ag39 ts39 (.tmp rfl) (.inl ⟨rfl, rfl, rfl⟩)) rfl (lt_b rfl) ?_
        refine GoD.q rfl (QEx.cal0 (r := (boolAV r5)) [(Fixture.av x3), (Fixture.av (ix b.Fixtures v1))] rfl Try.call25 (.cons (.tmp rfl) (.cons (.tmp rfl) .nil)) (body_equalFixtures_ok hr5) rfl rfl) rfl (lt_b rfl) ?_
        refine GoD.q rfl (QEx.notK rfl (.tmp rfl)) rfl (lt_b rfl) ?_
        refine GoD.nil ⟨by kernel_rfl, by kernel_rfl, by kernel_rfl, by kernel_rfl, by kernel_rfl, ?_⟩
        refine GoT.nil ?_
        refine Wp.condS h rfl (fun h => ?_) (fun h => ?_)
        · refine Wp.seq ?_
          refine Wp.region ?_
          refine GoT.q rfl (QEx.as (boolAV false) (QEx.assign rfl .con)) rfl (lt_b rfl) ?_
          refine GoT.nil ?_
          refine Wp.ret ?_
          cases h
          exact LeafQ.ret [] (by decide) (.cons (.tmp rfl) .nil) rfl
        · refine Wp.skip ?_
          refine let_e h fun x6 hx6 h => ?_
          refine Wp.region ?_
          refine GoT.q rfl (QEx.addK rfl (.tmp rfl) .con) rfl (lt_b rfl) ?_
          refine GoT.q rfl (QEx.eq (QEx.move rfl (.tmp rfl)) (congrArg iAV hx6)) rfl (lt_b rfl) ?_
          refine GoT.nil ?_
          exact Round1.mk x6 [6] [] h (LS.to.mk (.r rfl rfl (.r rfl rfl (.b rfl rfl (.b rfl rfl (.b rfl rfl .n))))) (.b rfl rfl rfl (.b rfl rfl rfl .n)) rfl)
      · refine Wp.exit ?_
        exact Joined0.mk [] [] h (LS.to.mk (.r rfl rfl (.r rfl rfl .n)) (.b rfl rfl rfl (.b rfl rfl rfl .n)) rfl)
theorem law23_example_ok {r : Bool} (h : law23_example = some r) : FnR Try.prog 8 [] (boolAV r) := by
  refine FnR.intro' (fn := Try.f8) (N := 75) Try.func8 rfl rfl (Nat.le_of_ble_eq_true rfl) [1, 2, 3] ?_
  refine Wp.seq ?_
  refine Wp.region ?_
  refine GoT.q rfl (QEx.as (boolAV false) (QEx.assign rfl .con)) rfl (lt_b rfl) ?_
  refine GoT.nil ?_
  refine let_e h fun r1 hr1 h => ?_
  refine let_e h fun x2 hx2 h => ?_
  refine Wp.seq ?_
  refine Wp.region ?_
  refine GoT.q rfl (QEx.cal0 (r := (Body.av r1)) [(iAV 5)] rfl Try.call22 (.cons .con .nil) (law23_disk_ok hr1) rfl rfl) rfl (lt_b rfl) ?_
  refine GoT.a rfl (AEx.alZ rfl zt29 rfl rfl) rfl (lt_b rfl) ?_
  refine GoT.s rfl (AEx.sto (Z := (Body.cells x2)) rfl rfl ts29 (.tmp rfl) rfl (.tmp rfl) rfl rfl (le_b rfl) (congrArg (fun (x : Body) => (Body.cells x)) hx2)) rfl ?_
  refine GoT.nil ?_
  refine bind_e h fun r3 hr3 h => ?_
  refine bind_e h fun r4 hr4 h => ?_
  refine let_e h fun x5 hx5 h => ?_
  refine Wp.seq ?_
  refine Wp.drawn2 (n0 := 7) [3] mixed ?_
  refine GoD.qr rfl rfl (QEx.ldP (Body.cells x2) (Body.av x2) rfl ag29 ts29 (.tmp rfl) (le_b rfl) rfl) rfl (lt_b rfl) ?_
  refine GoD.qr rfl rfl (QEx.ldP (Body.cells x2) (Body.av x2) rfl ag29 ts29 (.tmp rfl) (le_b rfl) rfl) rfl (lt_b rfl) ?_
  refine GoD.q rfl (QEx.cal0 (r := (Vec.av r3)) [(Body.av x2)] rfl Try.call23 (.cons (.tmp rfl) .nil) (body_WorldCenter_ok hr3) rfl rfl) rfl (lt_b rfl) ?_
  refine GoD.q rfl (QEx.as (Vec.av (⟨205888, 0⟩ : Vec)) (QEx.buildZ rfl Try.underlying24 zt24 (by kernel_rfl) (.cons rfl .con rfl rfl (le_b rfl) .nil))) rfl (lt_b rfl) ?_
  refine GoD.q rfl (QEx.cal0 (r := (Body.av r4)) [(Body.av x2), (Vec.av r3), (Vec.av (⟨205888, 0⟩ : Vec))] rfl Try.call12 (.cons (.tmp rfl) (.cons (.tmp rfl) (.cons (.tmp rfl) .nil))) (body_ApplyImpulse_ok hr4) rfl rfl) rfl (lt_b rfl) ?_
  refine GoD.al rfl rfl zt29 rfl (lt_b rfl) ?_
  refine GoD.s rfl (Z := (Body.cells x5)) rfl rfl ts29 (.tmp rfl) rfl (.tmp rfl) rfl rfl (le_b rfl) (congrArg (fun (x : Body) => (Body.cells x)) hx5) ?_
  refine GoD.nil ⟨by kernel_rfl, by kernel_rfl, by kernel_rfl, by kernel_rfl, by kernel_rfl, ?_⟩
  refine GoT.nil ?_
  refine bind_e h fun r6 hr6 h => ?_
  refine let_e h fun x7 hx7 h => ?_
  refine Wp.seq ?_
  refine Wp.region ?_
  refine GoT.qr rfl rfl (QEx.ldP (Body.cells x2) (Body.av x2) rfl ag29 ts29 (.tmp rfl) (le_b rfl) rfl) rfl (lt_b rfl) ?_
  refine GoT.q rfl (QEx.cal0 (r := (.tup [(AABB.av r6.1), (boolAV r6.2)])) [(Body.av x2)] rfl Try.call18 (.cons (.tmp rfl) .nil) (body_Bounds_ok hr6) rfl rfl) rfl (lt_b rfl) ?_
  refine GoT.q rfl (QEx.move rfl (.tmp rfl)) rfl (lt_b rfl) ?_
  refine GoT.q rfl (QEx.extract rfl (.tmp rfl) rfl) rfl (lt_b rfl) ?_
  refine GoT.q rfl (QEx.extract rfl (.tmp rfl) rfl) rfl (lt_b rfl) ?_
  refine GoT.a rfl (AEx.alZ rfl zt48 rfl rfl) rfl (lt_b rfl) ?_
  refine GoT.s rfl (AEx.sto (Z := (AABB.cells x7)) rfl rfl ts48 (.tmp rfl) rfl (.tmp rfl) rfl rfl (le_b rfl) (congrArg (fun (x : AABB) => (AABB.cells x)) hx7)) rfl ?_
  refine GoT.q rfl (QEx.assign rfl (.tmp rfl)) rfl (lt_b rfl) ?_
  refine GoT.nil ?_
  refine bind_e h fun r8 hr8 h => ?_
  refine bind_e h fun r9 hr9 h => ?_
  refine let_e h fun x10 hx10 h => ?_
  refine bind_e h fun r11 hr11 h => ?_
  refine bind_e h fun r12 hr12 h => ?_
  refine bind_e h fun r13 hr13 h => ?_
  refine bind_e h fun r14 hr14 h => ?_
  refine let_e h fun x15 hx15 h => ?_
  refine Wp.seq ?_
  refine Wp.drawn2 (n0 := 60) [] mixed ?_
  refine GoD.qr rfl rfl (QEx.ldP (Body.cells x2) (Body.av x2) rfl ag29 ts29 (.tmp rfl) (le_b rfl) rfl) rfl (lt_b rfl) ?_
  refine GoD.q rfl (QEx.cal0 (r := (iAV r8)) [(Body.av x2)] rfl Try.call14 (.cons (.tmp rfl) .nil) (body_Validate_ok hr8) rfl rfl) rfl (lt_b rfl) ?_
  refine GoD.q rfl (QEx.eqlK rfl (.tmp rfl) .con) rfl (lt_b rfl) ?_
  refine GoD.q rfl (QEx.move rfl (.tmp rfl)) rfl (lt_b rfl) ?_
  refine GoD.gr rfl rfl rfl rfl (fun hg => QEx.ldP (Body.cells x2) (Body.av x2) rfl ag29 ts29 (.tmp rfl) (le_b rfl) rfl) rfl (lt_b rfl) ?_
  refine GoD.g rfl rfl rfl (fun hg => QEx.cal0 (r := (Vec.av r9)) [(Body.av x2)] rfl Try.call23 (.cons (.opt (.tmp rfl) hg) .nil) (body_WorldCenter_ok (gcall hr9 hg)) rfl rfl) rfl (lt_b rfl) ?_
  refine GoD.g rfl rfl rfl (fun hg => QEx.as (Vec.av (⟨5, 0⟩ : Vec)) (QEx.buildZ rfl Try.underlying24 zt24 (by kernel_rfl) (.cons rfl .con rfl rfl (le_b rfl) .nil))) rfl (lt_b rfl) ?_
  refine GoD.g rfl rfl rfl (fun hg => QEx.eqlA rfl eq24 (.opt (.tmp rfl) hg) (.opt (.tmp rfl) hg)) rfl (lt_b rfl) ?_
  refine GoD.q rfl (QEx.pickK rfl (.tmp rfl) (fun hp => (.opt (.tmp rfl) (beq_t hp))) (fun hp => .con)) rfl (lt_b rfl) ?_
  refine GoD.q rfl (QEx.move rfl (.tmp rfl)) rfl (lt_b rfl) ?_
  refine GoD.g rfl rfl rfl (fun hg => QEx.fldP 5 rfl Try.underlying29 rfl ts24 rfl (.tmp rfl) rfl) rfl (lt_b rfl) ?_
  refine GoD.g rfl rfl rfl (fun hg => QEx.fldP 5 rfl Try.underlying24 rfl ts3 rfl (.opt (.tmp rfl) hg) rfl) rfl (lt_b rfl) ?_
  refine GoD.gr rfl rfl rfl rfl (fun hg => QEx.ldP1 (Body.cells x5) (iAV x5.Velocity.X) rfl ag3 (.opt (.tmp rfl) hg) rfl) rfl (lt_b rfl) ?_
  refine GoD.g rfl rfl rfl (fun hg => QEx.gtrK rfl (.opt (.tmp rfl) hg) .con) rfl (lt_b rfl) ?_
  refine GoD.q rfl (QEx.pickK rfl (.tmp rfl) (fun hp => (.opt (.tmp rfl) (beq_t hp))) (fun hp => .con)) rfl (lt_b rfl) ?_
  refine GoD.q rfl (QEx.move rfl (.tmp rfl)) rfl (lt_b rfl) ?_
  refine GoD.g rfl rfl rfl (fun hg => QEx.fldP 5 rfl Try.underlying29 rfl ts24 rfl (.tmp rfl) rfl) rfl (lt_b rfl) ?_
  refine GoD.g rfl rfl rfl (fun hg => QEx.fldP 5 rfl Try.underlying24 rfl ts3 rfl (.opt (.tmp rfl) hg) rfl) rfl (lt_b rfl) ?_
  refine GoD.gr rfl rfl rfl rfl (fun hg => QEx.ldP1 (Body.cells x5) (iAV x5.Velocity.X) rfl ag3 (.opt (.tmp rfl) hg) rfl) rfl (lt_b rfl) ?_
  refine GoD.g rfl rfl rfl (fun hg => QEx.lssK rfl (.opt (.tmp rfl) hg) .con) rfl (lt_b rfl) ?_
  refine GoD.q rfl (QEx.pickK rfl (.tmp rfl) (fun hp => (.opt (.tmp rfl) (beq_t hp))) (fun hp => .con)) rfl (lt_b rfl) ?_
  refine GoD.q rfl (QEx.move rfl (.tmp rfl)) rfl (lt_b rfl) ?_
  refine GoD.g rfl rfl rfl (fun hg => QEx.fldP 5 rfl Try.underlying29 rfl ts24 rfl (.tmp rfl) rfl) rfl (lt_b rfl) ?_
  refine GoD.g rfl rfl rfl (fun hg => QEx.fldP 6 rfl Try.underlying24 rfl ts3 rfl (.opt (.tmp rfl) hg) rfl) rfl (lt_b rfl) ?_
  refine GoD.gr rfl rfl rfl rfl (fun hg => QEx.ldP1 (Body.cells x5) (iAV x5.Velocity.Y) rfl ag3 (.opt (.tmp rfl) hg) rfl) rfl (lt_b rfl) ?_
  refine GoD.g rfl rfl rfl (fun hg => QEx.eqlK rfl (.opt (.tmp rfl) hg) .con) rfl (lt_b rfl) ?_
  refine GoD.q rfl (QEx.pickK rfl (.tmp rfl) (fun hp => (.opt (.tmp rfl) (beq_t hp))) (fun hp => .con)) rfl (lt_b rfl) ?_
  refine GoD.q rfl (QEx.move rfl (.tmp rfl)) rfl (lt_b rfl) ?_
  refine GoD.g rfl rfl rfl (fun hg => QEx.fldP 7 rfl Try.underlying29 rfl ts3 rfl (.tmp rfl) rfl) rfl (lt_b rfl) ?_
  refine GoD.gr rfl rfl rfl rfl (fun hg => QEx.ldP1 (Body.cells x5) (iAV x5.AngularVelocity) rfl ag3 (.opt (.tmp rfl) hg) rfl) rfl (lt_b rfl) ?_
  refine GoD.g rfl rfl rfl (fun hg => QEx.eqlK rfl (.opt (.tmp rfl) hg) .con) rfl (lt_b rfl) ?_
  refine GoD.q rfl (QEx.pickK rfl (.tmp rfl) (fun hp => (.opt (.tmp rfl) (beq_t hp))) (fun hp => .con)) rfl (lt_b rfl) ?_
  refine GoD.q rfl (QEx.move rfl (.tmp rfl)) rfl (lt_b rfl) ?_
  refine GoD.g rfl rfl rfl (fun hg => QEx.move rfl (.tmp rfl)) rfl (lt_b rfl) ?_
  refine GoD.q rfl (QEx.pickK rfl (.tmp rfl) (fun hp => (.opt (.tmp rfl) (beq_t hp))) (fun hp => .con)) rfl (lt_b rfl) ?_
  refine GoD.q rfl (QEx.move rfl (.tmp rfl)) rfl (lt_b rfl) ?_
  refine GoD.gr rfl rfl rfl rfl (fun hg => QEx.ldP (AABB.cells x7) (AABB.av x7) rfl ag48 ts48 (.tmp rfl) (le_b rfl) rfl) rfl (lt_b rfl) ?_
  refine GoD.g rfl rfl rfl (fun hg => QEx.as (Vec.av (⟨(-65531), (-65536)⟩ : Vec)) (QEx.buildZ rfl Try.underlying24 zt24 (by kernel_rfl) (.cons rfl .con rfl rfl (le_b rfl) (.cons rfl .con rfl rfl (le_b rfl) .nil)))) rfl (lt_b rfl) ?_
  refine GoD.g rfl rfl rfl (fun hg => QEx.as (Vec.av (⟨65541, 65536⟩ : Vec)) (QEx.buildZ rfl Try.underlying24 zt24 (by kernel_rfl) (.cons rfl .con rfl rfl (le_b rfl) (.cons rfl .con rfl rfl (le_b rfl) .nil)))) rfl (lt_b rfl) ?_
  refine GoD.g rfl rfl rfl (fun hg => QEx.as (AABB.av (⟨(⟨(-65531), (-65536)⟩ : Vec), (⟨65541, 65536⟩ : Vec)⟩ : AABB)) (QEx.buildZ rfl Try.underlying48 zt48 (by kernel_rfl) (.cons rfl (.opt (.tmp rfl) hg) rfl rfl (le_b rfl) (.cons rfl (.opt (.tmp rfl) hg) rfl rfl (le_b rfl) .nil)))) rfl (lt_b rfl) ?_
  refine GoD.g rfl rfl rfl (fun hg => QEx.eq (QEx.eqlA rfl eq48 (.opt (.tmp rfl) hg) (.opt (.tmp rfl) hg)) (congrArg boolAV hx10)) rfl (lt_b rfl) ?_
  refine GoD.q rfl (QEx.pickK rfl (.tmp rfl) (fun hp => (.opt (.tmp rfl) (beq_t hp))) (fun hp => .con)) rfl (lt_b rfl) ?_
  refine GoD.q rfl (QEx.move rfl (.tmp rfl)) rfl (lt_b rfl) ?_
  refine GoD.gr rfl rfl rfl rfl (fun hg => QEx.ldP (Body.cells x2) (Body.av x2) rfl ag29 ts29 (.tmp rfl) (le_b rfl) rfl) rfl (lt_b rfl) ?_
  refine GoD.g rfl rfl rfl (fun hg => QEx.as (Vec.av (⟨5, 0⟩ : Vec)) (QEx.buildZ rfl Try.underlying24 zt24 (by kernel_rfl) (.cons rfl .con rfl rfl (le_b rfl) .nil))) rfl (lt_b rfl) ?_
  refine GoD.g rfl rfl rfl (fun hg => QEx.cal0 (r := (iAV r11)) [(Body.av x2), (Vec.av (⟨5, 0⟩ : Vec))] rfl Try.call17 (.cons (.opt (.tmp rfl) hg) (.cons (.opt (.tmp rfl) hg) .nil)) (body_FixtureAt_ok (gcall hr11 hg)) rfl rfl) rfl (lt_b rfl) ?_
  refine GoD.g rfl rfl rfl (fun hg => QEx.eqlK rfl (.opt (.tmp rfl) hg) .con) rfl (lt_b rfl) ?_
  refine GoD.q rfl (QEx.pickK rfl (.tmp rfl) (fun hp => (.opt (.tmp rfl) (beq_t hp))) (fun hp => .con)) rfl (lt_b rfl) ?_
  refine GoD.q rfl (QEx.move rfl (.tmp rfl)) rfl (lt_b rfl) ?_
  refine GoD.gr rfl rfl rfl rfl (fun hg => QEx.ldP (Body.cells x2) (Body.av x2) rfl ag29 ts29 (.tmp rfl) (le_b rfl) rfl) rfl (lt_b rfl) ?_
  refine GoD.gr rfl rfl rfl rfl (fun hg => QEx.ldP (Body.cells x2) (Body.av x2) rfl ag29 ts29 (.tmp rfl) (le_b rfl) rfl) rfl (lt_b rfl) ?_
  refine GoD.g rfl rfl rfl (fun hg => QEx.cal0 (r := (Body.av r12)) [(Body.av x2)] rfl Try.call9 (.cons (.opt (.tmp rfl) hg) .nil) (body_Clone_ok (gcall hr12 hg)) rfl rfl) rfl (lt_b rfl) ?_
  refine GoD.g rfl rfl rfl (fun hg => QEx.cal0 (r := (boolAV r13)) [(Body.av x2), (Body.av r12)] rfl Try.call10 (.cons (.opt (.tmp rfl) hg) (.cons (.opt (.tmp rfl) hg) .nil)) (body_Equal_ok (gcall hr13 hg)) rfl rfl) rfl (lt_b rfl) ?_
  refine GoD.q rfl (QEx.pickK rfl (.tmp rfl) (fun hp => (.opt (.tmp rfl) (beq_t hp))) (fun hp => .con)) rfl (lt_b rfl) ?_
  refine GoD.q rfl (QEx.move rfl (.tmp rfl)) rfl (lt_b rfl) ?_
  refine GoD.g rfl rfl rfl (fun hg => QEx.as (Body.av (⟨0, 0, Transform.zero, Vec.zero, 0, Vec.zero, 0, 0, 0, 0, false, false, false, false, 0, []⟩ : Body)) (QEx.buildZ rfl Try.underlying29 zt29 (by kernel_rfl) .nil)) rfl (lt_b rfl) ?_
  refine GoD.g rfl rfl rfl (fun hg => QEx.cal0 (r := (iAV r14)) [(Body.av (⟨0, 0, Transform.zero, Vec.zero, 0, Vec.zero, 0, 0, 0, 0, false, false, false, false, 0, []⟩ : Body))] rfl Try.call14 (.cons (.opt (.tmp rfl) hg) .nil) (body_Validate_ok (gcall hr14 hg)) rfl rfl) rfl (lt_b rfl) ?_
  refine GoD.g rfl rfl rfl (fun hg => QEx.eqlK rfl (.opt (.tmp rfl) hg) .con) rfl (lt_b rfl) ?_
  refine GoD.q rfl (QEx.pickK rfl (.tmp rfl) (fun hp => (.opt (.tmp rfl) (beq_t hp))) (fun hp => .con)) rfl (lt_b rfl) ?_
  refine GoD.q rfl (QEx.eq (QEx.assign rfl (.tmp rfl)) (congrArg boolAV hx15)) rfl (lt_b rfl) ?_
  refine GoD.nil ⟨by kernel_rfl, by kernel_rfl, by kernel_rfl, by kernel_rfl, by kernel_rfl, ?_⟩
  refine GoT.nil ?_
  refine Wp.ret ?_
  cases h
  exact LeafQ.ret [] (by decide) (.cons (.tmp rfl) .nil) rfl
theorem aabb_Expand_ok {b : AABB} {margin : Int} {r : AABB} (h : aabb_Expand b margin = r) : FnR Try.prog 21 [(AABB.av b), (iAV margin)] (AABB.av r) := by
  refine FnR.intro' (fn := Try.f21) (N := 38) Try.func21 rfl rfl (Nat.le_of_ble_eq_true rfl) [2, 4, 5] ?_
  refine Wp.seq ?_
  refine Wp.region ?_
  refine GoT.a rfl (AEx.bx (Z := (AABB.cells b)) rfl (.tmp rfl) rfl rfl rfl rfl) rfl (lt_b rfl) ?_
  refine GoT.a rfl (AEx.alZ rfl zt48 rfl rfl) rfl (lt_b rfl) ?_
  refine GoT.nil ?_
  refine Wp.seq ?_
  refine let_e h fun r1 hr1 h => ?_
  refine Wp.seq ?_
  refine Wp.region ?_
  refine GoT.qr rfl rfl (QEx.ldP (AABB.cells b) (AABB.av b) rfl ag48 ts48 (.tmp rfl) (le_b rfl) rfl) rfl (lt_b rfl) ?_
  refine GoT.q rfl (QEx.cal0 (r := (boolAV r1)) [(AABB.av b)] rfl Try.call46 (.cons (.tmp rfl) .nil) (aabb_Valid_ok hr1) rfl rfl) rfl (lt_b rfl) ?_
  refine GoT.q rfl (QEx.notK rfl (.tmp rfl)) rfl (lt_b rfl) ?_
  refine GoT.nil ?_
  refine Wp.condS h rfl (fun h => ?_) (fun h => ?_)
  · refine let_e h fun x2 hx2 h => ?_
    refine Wp.seq ?_
    refine Wp.region ?_
    refine GoT.q rfl (QEx.as (AABB.av (⟨Vec.zero, Vec.zero⟩ : AABB)) (QEx.buildZ rfl Try.underlying48 zt48 (by kernel_rfl) .nil)) rfl (lt_b rfl) ?_
    refine GoT.s rfl (AEx.sto (Z := (AABB.cells x2)) rfl rfl ts48 (.tmp rfl) rfl (.tmp rfl) rfl rfl (le_b rfl) (congrArg (fun (x : AABB) => (AABB.cells x)) hx2)) rfl ?_
    refine GoT.nil ?_
    refine Wp.ret ?_
    cases h
    exact LeafQ.ret [] (by decide) (.cons (.agg rfl rfl ag48 ts48) .nil) rfl
  · refine Wp.skip ?_
    refine let_e h fun r3 hr3 h => ?_
    refine let_e h fun r4 hr4 h => ?_
    refine let_e h fun r5 hr5 h => ?_
    refine let_e h fun r6 hr6 h => ?_
    refine let_e h fun x7 hx7 h => ?_
    refine Wp.seq ?_
    refine Wp.drawn2 (n0 := 25) [] mixed ?_
    refine GoD.q rfl (QEx.fldP 0 rfl Try.underlying48 rfl ts24 rfl (.tmp rfl) rfl) rfl (lt_b rfl) ?_
    refine GoD.q rfl (QEx.fldP 0 rfl Try.underlying24 rfl ts3 rfl (.tmp rfl) rfl) rfl (lt_b rfl) ?_
    refine GoD.qr rfl rfl (QEx.ldP1 (AABB.cells b) (iAV b.Min.X) rfl ag3 (.tmp rfl) rfl) rfl (lt_b rfl) ?_
    refine GoD.q rfl (QEx.move rfl (.tmp rfl)) rfl (lt_b rfl) ?_
    refine GoD.q rfl (QEx.cal0 (r := (iAV r3)) [(iAV b.Min.X), (iAV margin)] rfl Try.call47 (.cons (.tmp rfl) (.cons (.tmp rfl) .nil)) (fixed_Sub_ok hr3) rfl rfl) rfl (lt_b rfl) ?_
    refine GoD.q rfl (QEx.fldP 0 rfl Try.underlying48 rfl ts24 rfl (.tmp rfl) rfl) rfl (lt_b rfl) ?_
    refine GoD.q rfl (QEx.fldP 1 rfl Try.underlying24 rfl ts3 rfl (.tmp rfl) rfl) rfl (lt_b rfl) ?_
    refine GoD.qr rfl rfl (QEx.ldP1 (AABB.cells b) (iAV b.Min.Y) rfl ag3 (.tmp rfl) rfl) rfl (lt_b rfl) ?_
    refine GoD.q rfl (QEx.move rfl (.tmp rfl)) rfl (lt_b rfl) ?_
    refine GoD.q rfl (QEx.cal0 (r := (iAV r4)) [(iAV b.Min.Y), (iAV margin)] rfl Try.call47 (.cons (.tmp rfl) (.cons (.tmp rfl) .nil)) (fixed_Sub_ok hr4) rfl rfl) rfl (lt_b rfl) ?_
    refine GoD.q rfl (QEx.as (Vec.av (⟨r3, r4⟩ : Vec)) (QEx.buildZ rfl Try.underlying24 zt24 (by kernel_rfl) (.cons rfl (.tmp rfl) rfl rfl (le_b rfl) (.cons rfl (.tmp rfl) rfl rfl (le_b rfl) .nil)))) rfl (lt_b rfl) ?_
    refine GoD.q rfl (QEx.fldP 2 rfl Try.underlying48 rfl ts24 rfl (.tmp rfl) rfl) rfl (lt_b rfl) ?_
    refine GoD.q rfl (QEx.fldP 2 rfl Try.underlying24 rfl ts3 rfl (.tmp rfl) rfl) rfl (lt_b rfl) ?_
    refine GoD.qr rfl rfl (QEx.ldP1 (AABB.cells b) (iAV b.Max.X) rfl ag3 (.tmp rfl) rfl) rfl (lt_b rfl) ?_
    refine GoD.q rfl (QEx.move rfl (.tmp rfl)) rfl (lt_b rfl) ?_
    refine GoD.q rfl (QEx.cal0 (r := (iAV r5)) [(iAV b.Max.X), (iAV margin)] rfl Try.call31 (.cons (.tmp rfl) (.cons (.tmp rfl) .nil)) (fixed_Add_ok hr5) rfl rfl) rfl (lt_b rfl) ?_
    refine GoD.q rfl (QEx.fldP 2 rfl Try.underlying48 rfl ts24 rfl (.tmp rfl) rfl) rfl (lt_b rfl) ?_
    refine GoD.q rfl (QEx.fldP 3 rfl Try.underlying24 rfl ts3 rfl (.tmp rfl) rfl) rfl (lt_b rfl) ?_
    refine GoD.qr rfl rfl (QEx.ldP1 (AABB.cells b) (iAV b.Max.Y) rfl ag3 (.tmp rfl) rfl) rfl (lt_b rfl) ?_
    refine GoD.q rfl (QEx.move rfl (.tmp rfl)) rfl (lt_b rfl) ?_
    refine GoD.q rfl (QEx.cal0 (r := (iAV r6)) [(iAV b.Max.Y), (iAV margin)] rfl Try.call31 (.cons (.tmp rfl) (.cons (.tmp rfl) .nil)) (fixed_Add_ok hr6) rfl rfl) rfl (lt_b rfl) ?_
    refine GoD.q rfl (QEx.as (Vec.av (⟨r5, r6⟩ : Vec)) (QEx.buildZ rfl Try.underlying24 zt24 (by kernel_rfl) (.cons rfl (.tmp rfl) rfl rfl (le_b rfl) (.cons rfl (.tmp rfl) rfl rfl (le_b rfl) .nil)))) rfl (lt_b rfl) ?_
    refine GoD.q rfl (QEx.as (AABB.av (⟨(⟨r3, r4⟩ : Vec), (⟨r5, r6⟩ : Vec)⟩ : AABB)) (QEx.buildZ rfl Try.underlying48 zt48 (by kernel_rfl) (.cons rfl (.tmp rfl) rfl rfl (le_b rfl) (.cons rfl (.tmp rfl) rfl rfl (le_b rfl) .nil)))) rfl (lt_b rfl) ?_
    refine GoD.al rfl rfl zt48 rfl (lt_b rfl) ?_
    refine GoD.s rfl (Z := (AABB.cells x7)) rfl rfl ts48 (.tmp rfl) rfl (.tmp rfl) rfl rfl (le_b rfl) (congrArg (fun (x : AABB) => (AABB.cells x)) hx7) ?_
    refine GoD.nil ⟨by kernel_rfl, by kernel_rfl, by kernel_rfl, by kernel_rfl, by kernel_rfl, ?_⟩
    refine GoT.nil ?_
    refine Wp.seq ?_
    refine let_e h fun r8 hr8 h => ?_
    refine Wp.seq ?_
    refine Wp.region ?_
    refine GoT.qr rfl rfl (QEx.ldP (AABB.cells x7) (AABB.av x7) rfl ag48 ts48 (.tmp rfl) (le_b rfl) rfl) rfl (lt_b rfl) ?_
    refine GoT.q rfl (QEx.cal0 (r := (boolAV r8)) [(AABB.av x7)] rfl Try.call46 (.cons (.tmp rfl) .nil) (aabb_Valid_ok hr8) rfl rfl) rfl (lt_b rfl) ?_
    refine GoT.q rfl (QEx.notK rfl (.tmp rfl)) rfl (lt_b rfl) ?_
    refine GoT.nil ?_
    refine Wp.condS h rfl (fun h => ?_) (fun h => ?_)
    · refine let_e h fun x9 hx9 h => ?_
      refine Wp.seq ?_
      refine Wp.region ?_
      refine GoT.q rfl (QEx.as (AABB.av (⟨Vec.zero, Vec.zero⟩ : AABB)) (QEx.buildZ rfl Try.underlying48 zt48 (by kernel_rfl) .nil)) rfl (lt_b rfl) ?_
      refine GoT.s rfl (AEx.sto (Z := (AABB.cells x9)) rfl rfl ts48 (.tmp rfl) rfl (.tmp rfl) rfl rfl (le_b rfl) (congrArg (fun (x : AABB) => (AABB.cells x)) hx9)) rfl ?_
      refine GoT.nil ?_
      refine Wp.ret ?_
      cases h
      exact LeafQ.ret [] (by decide) (.cons (.agg rfl rfl ag48 ts48) .nil) rfl
    · refine Wp.skip ?_
      refine let_e h fun x10 hx10 h => ?_
      refine Wp.seq ?_
      refine Wp.region ?_
      refine GoT.qr rfl rfl (QEx.ldP (AABB.cells x7) (AABB.av x7) rfl ag48 ts48 (.tmp rfl) (le_b rfl) rfl) rfl (lt_b rfl) ?_
      refine GoT.s rfl (AEx.sto (Z := (AABB.cells x10)) rfl rfl ts48 (.tmp rfl) rfl (.tmp rfl) rfl rfl (le_b rfl) (congrArg (fun (x : AABB) => (AABB.cells x)) hx10)) rfl ?_
      refine GoT.nil ?_
      refine Wp.ret ?_
      cases h
      exact LeafQ.ret [] (by decide) (.cons (.agg rfl rfl ag48 ts48) .nil) rfl
theorem aabb_ContainsPoint_ok {b : AABB} {v_1 : Vec} {r : Bool} (h : aabb_ContainsPoint b v_1 = r) : FnR Try.prog 20 [(AABB.av b), (Vec.av v_1)] (boolAV r) := by
  refine FnR.intro' (fn := Try.f20) (N := 41) Try.func20 rfl rfl (Nat.le_of_ble_eq_true rfl) [2, 3] ?_
  refine Wp.seq ?_
  refine Wp.region ?_
  refine GoT.a rfl (AEx.bx (Z := (AABB.cells b)) rfl (.tmp rfl) rfl rfl rfl rfl) rfl (lt_b rfl) ?_
  refine GoT.a rfl (AEx.bx (Z := (Vec.cells v_1)) rfl (.tmp rfl) rfl rfl rfl rfl) rfl (lt_b rfl) ?_
  refine GoT.q rfl (QEx.as (boolAV false) (QEx.assign rfl .con)) rfl (lt_b rfl) ?_
  refine GoT.nil ?_
  refine let_e h fun r1 hr1 h => ?_
  refine let_e h fun x2 hx2 h => ?_
  refine Wp.seq ?_
  refine Wp.region ?_
  refine GoT.qr rfl rfl (QEx.ldP (Vec.cells v_1) (Vec.av v_1) rfl ag24 ts24 (.tmp rfl) (le_b rfl) rfl) rfl (lt_b rfl) ?_
  refine GoT.q rfl (QEx.cal0 (r := (Vec.av r1)) [(Vec.av v_1)] rfl Try.call45 (.cons (.tmp rfl) .nil) (aabb_saturate_ok hr1) rfl rfl) rfl (lt_b rfl) ?_
  refine GoT.s rfl (AEx.sto (Z := (Vec.cells x2)) rfl rfl ts24 (.tmp rfl) rfl (.tmp rfl) rfl rfl (le_b rfl) (congrArg (fun (x : Vec) => (Vec.cells x)) hx2)) rfl ?_
  refine GoT.nil ?_
  refine let_e h fun r3 hr3 h => ?_
  refine let_e h fun x4 hx4 h => ?_
  refine Wp.seq ?_
  refine Wp.region ?_
  refine GoT.qr rfl rfl (QEx.ldP (AABB.cells b) (AABB.av b) rfl ag48 ts48 (.tmp rfl) (le_b rfl) rfl) rfl (lt_b rfl) ?_
  refine GoT.q rfl (QEx.cal0 (r := (boolAV r3)) [(AABB.av b)] rfl Try.call46 (.cons (.tmp rfl) .nil) (aabb_Valid_ok hr3) rfl rfl) rfl (lt_b rfl) ?_
  refine GoT.q rfl (QEx.move rfl (.tmp rfl)) rfl (lt_b rfl) ?_
  refine GoT.g rfl rfl rfl (fun hg => QEx.fldP 0 rfl Try.underlying48 rfl ts24 rfl (.tmp rfl) rfl) rfl (lt_b rfl) ?_
  refine GoT.g rfl rfl rfl (fun hg => QEx.fldP 0 rfl Try.underlying24 rfl ts3 rfl (.opt (.tmp rfl) hg) rfl) rfl (lt_b rfl) ?_
  refine GoT.gr rfl rfl rfl rfl (fun hg => QEx.ldP1 (AABB.cells b) (iAV b.Min.X) rfl ag3 (.opt (.tmp rfl) hg) rfl) rfl (lt_b rfl) ?_
  refine GoT.g rfl rfl rfl (fun hg => QEx.fldP 0 rfl Try.underlying24 rfl ts3 rfl (.tmp rfl) rfl) rfl (lt_b rfl) ?_
  refine GoT.gr rfl rfl rfl rfl (fun hg => QEx.ldP1 (Vec.cells x2) (iAV x2.X) rfl ag3 (.opt (.tmp rfl) hg) rfl) rfl (lt_b rfl) ?_
  refine GoT.g rfl rfl rfl (fun hg => QEx.leqK rfl (.opt (.tmp rfl) hg) (.opt (.tmp rfl) hg)) rfl (lt_b rfl) ?_
  refine GoT.q rfl (QEx.pickK rfl (.tmp rfl) (fun hp => (.opt (.tmp rfl) (beq_t hp))) (fun hp => .con)) rfl (lt_b rfl) ?_
  refine GoT.q rfl (QEx.move rfl (.tmp rfl)) rfl (lt_b rfl) ?_
  refine GoT.g rfl rfl rfl (fun hg => QEx.fldP 0 rfl Try.underlying24 rfl ts3 rfl (.tmp rfl) rfl) rfl (lt_b rfl) ?_
  refine GoT.gr rfl rfl rfl rfl (fun hg => QEx.ldP1 (Vec.cells x2) (iAV x2.X) rfl ag3 (.opt (.tmp rfl) hg) rfl) rfl (lt_b rfl) ?_
  refine GoT.g rfl rfl rfl (fun hg => QEx.fldP 2 rfl Try.underlying48 rfl ts24 rfl (.tmp rfl) rfl) rfl (lt_b rfl) ?_
  refine GoT.g rfl rfl rfl (fun hg => QEx.fldP 2 rfl Try.underlying24 rfl ts3 rfl (.opt (.tmp rfl) hg) rfl) rfl (lt_b rfl) ?_
  refine GoT.gr rfl rfl rfl rfl (fun hg => QEx.ldP1 (AABB.cells b) (iAV b.Max.X) rfl ag3 (.opt (.tmp rfl) hg) rfl) rfl (lt_b rfl) ?_
  refine GoT.g rfl rfl rfl (fun hg => QEx.leqK rfl (.opt (.tmp rfl) hg) (.opt (.tmp rfl) hg)) rfl (lt_b rfl) ?_
  refine GoT.q rfl (QEx.pickK rfl (.tmp rfl) (fun hp => (.opt (.tmp rfl) (beq_t hp))) (fun hp => .con)) rfl (lt_b rfl) ?_
  refine GoT.q rfl (QEx.move rfl (.tmp rfl)) rfl (lt_b rfl) ?_
  refine GoT.g rfl rfl rfl (fun hg => QEx.fldP 0 rfl Try.underlying48 rfl ts24 rfl (.tmp rfl) rfl) rfl (lt_b rfl) ?_
  refine GoT.g rfl rfl rfl (fun hg => QEx.fldP 1 rfl Try.underlying24 rfl ts3 rfl (.opt (.tmp rfl) hg) rfl) rfl (lt_b rfl) ?_
  refine GoT.gr rfl rfl rfl rfl (fun hg => QEx.ldP1 (AABB.cells b) (iAV b.Min.Y) rfl ag3 (.opt (.tmp rfl) hg) rfl) rfl (lt_b rfl) ?_
  refine GoT.g rfl rfl rfl (fun hg => QEx.fldP 1 rfl Try.underlying24 rfl ts3 rfl (.tmp rfl) rfl) rfl (lt_b rfl) ?_
  refine GoT.gr rfl rfl rfl rfl (fun hg => QEx.ldP1 (Vec.cells x2) (iAV x2.Y) rfl ag3 (.opt (.tmp rfl) hg) rfl) rfl (lt_b rfl) ?_
  refine GoT.g rfl rfl rfl (fun hg => QEx.leqK rfl (.opt (.tmp rfl) hg) (.opt (.tmp rfl) hg)) rfl (lt_b rfl) ?_
  refine GoT.q rfl (QEx.pickK rfl (.tmp rfl) (fun hp => (.opt (.tmp rfl) (beq_t hp))) (fun hp => .con)) rfl (lt_b rfl) ?_
  refine GoT.q rfl (QEx.move rfl (.tmp rfl)) rfl (lt_b rfl) ?_
  refine GoT.g rfl rfl rfl (fun hg => QEx.fldP 1 rfl Try.underlying24 rfl ts3 rfl (.tmp rfl) rfl) rfl (lt_b rfl) ?_
  refine GoT.gr rfl rfl rfl rfl (fun hg => QEx.ldP1 (Vec.cells x2) (iAV x2.Y) rfl ag3 (.opt (.tmp rfl) hg) rfl) rfl (lt_b rfl) ?_
  refine GoT.g rfl rfl rfl (fun hg => QEx.fldP 2 rfl Try.underlying48 rfl ts24 rfl (.tmp rfl) rfl) rfl (lt_b rfl) ?_
  refine GoT.g rfl rfl rfl (fun hg => QEx.fldP 3 rfl Try.underlying24 rfl ts3 rfl (.opt (.tmp rfl) hg) rfl) rfl (lt_b rfl) ?_
  refine GoT.gr rfl rfl rfl rfl (fun hg => QEx.ldP1 (AABB.cells b) (iAV b.Max.Y) rfl ag3 (.opt (.tmp rfl) hg) rfl) rfl (lt_b rfl) ?_
  refine GoT.g rfl rfl rfl (fun hg => QEx.leqK rfl (.opt (.tmp rfl) hg) (.opt (.tmp rfl) hg)) rfl (lt_b rfl) ?_
  refine GoT.q rfl (QEx.pickK rfl (.tmp rfl) (fun hp => (.opt (.tmp rfl) (beq_t hp))) (fun hp => .con)) rfl (lt_b rfl) ?_
  refine GoT.q rfl (QEx.eq (QEx.assign rfl (.tmp rfl)) (congrArg boolAV hx4)) rfl (lt_b rfl) ?_
  refine GoT.nil ?_
  refine Wp.ret ?_
  cases h
  exact LeafQ.ret [] (by decide) (.cons (.tmp rfl) .nil) rfl
theorem law23_BodyFixtureAt_ok {b : Body} {point : Vec} {r : Bool} (h : law23_BodyFixtureAt b point = some r) : FnR Try.prog 6 [(Body.av b), (Vec.av point)] (boolAV r) := by
  refine FnR.intro' (fn := Try.f6) (N := 91) Try.func6 rfl rfl (Nat.le_of_ble_eq_true rfl) [2, 3, 6] ?_
  refine Wp.seq ?_
  refine Wp.region ?_
  refine GoT.a rfl (AEx.bx (Z := (Body.cells b)) rfl (.tmp rfl) rfl rfl rfl rfl) rfl (lt_b rfl) ?_
  refine GoT.a rfl (AEx.bx (Z := (Vec.cells point)) rfl (.tmp rfl) rfl rfl rfl rfl) rfl (lt_b rfl) ?_
  refine GoT.q rfl (QEx.as (boolAV false) (QEx.assign rfl .con)) rfl (lt_b rfl) ?_
  refine GoT.nil ?_
  refine Wp.seq ?_
  refine bind_e h fun r1 hr1 h => ?_
  refine bind_e h fun r2 hr2 h => ?_
  refine Wp.seq ?_
  refine Wp.region ?_
  refine GoT.qr rfl rfl (QEx.ldP (Body.cells b) (Body.av b) rfl ag29 ts29 (.tmp rfl) (le_b rfl) rfl) rfl (lt_b rfl) ?_
  refine GoT.q rfl (QEx.cal0 (r := (boolAV r1)) [(Body.av b)] rfl Try.call7 (.cons (.tmp rfl) .nil) (ref23_Small_ok hr1) rfl rfl) rfl (lt_b rfl) ?_
  refine GoT.q rfl (QEx.notK rfl (.tmp rfl)) rfl (lt_b rfl) ?_
  refine GoT.q rfl (QEx.move rfl (.tmp rfl)) rfl (lt_b rfl) ?_
  refine GoT.gr rfl rfl rfl rfl (fun hg => QEx.ldP (Body.cells b) (Body.av b) rfl ag29 ts29 (.tmp rfl) (le_b rfl) rfl) rfl (lt_b rfl) ?_
  refine GoT.g rfl rfl rfl (fun hg => QEx.cal0 (r := (iAV r2)) [(Body.av b)] rfl Try.call14 (.cons (.opt (.tmp rfl) hg) .nil) (body_Validate_ok (gcall hr2 hg)) rfl rfl) rfl (lt_b rfl) ?_
  refine GoT.g rfl rfl rfl (fun hg => QEx.neqK rfl (.opt (.tmp rfl) hg) .con) rfl (lt_b rfl) ?_
  refine GoT.q rfl (QEx.pickK rfl (.tmp rfl) (fun hp => .con) (fun hp => (.opt (.tmp rfl) (beq_f hp)))) rfl (lt_b rfl) ?_
  refine GoT.nil ?_
  refine Wp.condS h rfl (fun h => ?_) (fun h => ?_)
  · refine bind_e h fun r3 hr3 h => ?_
    refine Wp.seq ?_
    refine Wp.region ?_
    refine GoT.q rfl (QEx.cal0 (r := (boolAV r3)) [] rfl Try.call8 .nil (law23_example_ok hr3) rfl rfl) rfl (lt_b rfl) ?_
    refine GoT.q rfl (QEx.assign rfl (.tmp rfl)) rfl (lt_b rfl) ?_
    refine GoT.nil ?_
    refine Wp.ret ?_
    cases h
    exact LeafQ.ret [] (by decide) (.cons (.tmp rfl) .nil) rfl
  · refine Wp.skip ?_
    refine bind_e h fun r4 hr4 h => ?_
    refine Wp.seq ?_
    refine Wp.region ?_
    refine GoT.qr rfl rfl (QEx.ldP (Body.cells b) (Body.av b) rfl ag29 ts29 (.tmp rfl) (le_b rfl) rfl) rfl (lt_b rfl) ?_
    refine GoT.qr rfl rfl (QEx.ldP (Vec.cells point) (Vec.av point) rfl ag24 ts24 (.tmp rfl) (le_b rfl) rfl) rfl (lt_b rfl) ?_
    refine GoT.q rfl (QEx.cal0 (r := (iAV r4)) [(Body.av b), (Vec.av point)] rfl Try.call17 (.cons (.tmp rfl) (.cons (.tmp rfl) .nil)) (body_FixtureAt_ok hr4) rfl rfl) rfl (lt_b rfl) ?_
    refine GoT.q rfl (QEx.assign rfl (.tmp rfl)) rfl (lt_b rfl) ?_
    refine GoT.nil ?_
    refine bind_e h fun r5 hr5 h => ?_
    refine let_e h fun x6 hx6 h => ?_
    refine Wp.seq ?_
    refine Wp.region ?_
    refine GoT.qr rfl rfl (QEx.ldP (Body.cells b) (Body.av b) rfl ag29 ts29 (.tmp rfl) (le_b rfl) rfl) rfl (lt_b rfl) ?_
    refine GoT.q rfl (QEx.cal0 (r := (.tup [(AABB.av r5.1), (boolAV r5.2)])) [(Body.av b)] rfl Try.call18 (.cons (.tmp rfl) .nil) (body_Bounds_ok hr5) rfl rfl) rfl (lt_b rfl) ?_
    refine GoT.q rfl (QEx.move rfl (.tmp rfl)) rfl (lt_b rfl) ?_
    refine GoT.q rfl (QEx.extract rfl (.tmp rfl) rfl) rfl (lt_b rfl) ?_
    refine GoT.q rfl (QEx.extract rfl (.tmp rfl) rfl) rfl (lt_b rfl) ?_
    refine GoT.a rfl (AEx.alZ rfl zt48 rfl rfl) rfl (lt_b rfl) ?_
    refine GoT.s rfl (AEx.sto (Z := (AABB.cells x6)) rfl rfl ts48 (.tmp rfl) rfl (.tmp rfl) rfl rfl (le_b rfl) (congrArg (fun (x : AABB) => (AABB.cells x)) hx6)) rfl ?_
    refine GoT.q rfl (QEx.assign rfl (.tmp rfl)) rfl (lt_b rfl) ?_
    refine GoT.nil ?_
    refine Wp.seq ?_
    refine Wp.seq ?_
    refine Wp.region ?_
    refine GoT.q rfl (QEx.move rfl (.tmp rfl)) rfl (lt_b rfl) ?_
    refine GoT.q rfl (QEx.fldP 19 rfl Try.underlying29 rfl ts27 rfl (.tmp rfl) rfl) rfl (lt_b rfl) ?_
    refine GoT.qr rfl rfl (QEx.ldP1 (Body.cells b) ((slAV 10 Fixture.av) b.Fixtures) rfl ag27 (.tmp rfl) rfl) rfl (lt_b rfl) ?_
    refine GoT.q rfl (QEx.lenL rfl ⟨_, Try.underlying27⟩ (.tmp rfl)) rfl (lt_b rfl) ?_
    refine GoT.q rfl (QEx.gtrK rfl (.tmp rfl) .con) rfl (lt_b rfl) ?_
    refine GoT.q rfl (QEx.neqB rfl (.tmp rfl) (.tmp rfl) Try.underlying4) rfl (lt_b rfl) ?_
    refine GoT.q rfl (QEx.move rfl (.tmp rfl)) rfl (lt_b rfl) ?_
    refine GoT.g rfl rfl rfl (fun hg => QEx.move rfl (.tmp rfl)) rfl (lt_b rfl) ?_
    refine GoT.g rfl rfl rfl (fun hg => QEx.lssK rfl (.opt (.tmp rfl) hg) .con) rfl (lt_b rfl) ?_
    refine GoT.q rfl (QEx.pickK rfl (.tmp rfl) (fun hp => .con) (fun hp => (.opt (.tmp rfl) (beq_f hp)))) rfl (lt_b rfl) ?_
    refine GoT.q rfl (QEx.move rfl (.tmp rfl)) rfl (lt_b rfl) ?_
    refine GoT.g rfl rfl rfl (fun hg => QEx.move rfl (.tmp rfl)) rfl (lt_b rfl) ?_
    refine GoT.g rfl rfl rfl (fun hg => QEx.fldP 19 rfl Try.underlying29 rfl ts27 rfl (.tmp rfl) rfl) rfl (lt_b rfl) ?_
    refine GoT.gr rfl rfl rfl rfl (fun hg => QEx.ldP1 (Body.cells b) ((slAV 10 Fixture.av) b.Fixtures) rfl ag27 (.opt (.tmp rfl) hg) rfl) rfl (lt_b rfl) ?_
    refine GoT.g rfl rfl rfl (fun hg => QEx.lenL rfl ⟨_, Try.underlying27⟩ (.opt (.tmp rfl) hg)) rfl (lt_b rfl) ?_
    refine GoT.g rfl rfl rfl (fun hg => QEx.geqK rfl (.opt (.tmp rfl) hg) (.opt (.tmp rfl) hg)) rfl (lt_b rfl) ?_
    refine GoT.q rfl (QEx.pickK rfl (.tmp rfl) (fun hp => .con) (fun hp => (.opt (.tmp rfl) (beq_f hp)))) rfl (lt_b rfl) ?_
    refine GoT.nil ?_
    refine Wp.condS h rfl (fun h => ?_) (fun h => ?_)
    · refine Wp.seq ?_
      refine Wp.region ?_
      refine GoT.q rfl (QEx.as (boolAV false) (QEx.assign rfl .con)) rfl (lt_b rfl) ?_
      refine GoT.nil ?_
      refine Wp.ret ?_
      cases h
      exact LeafQ.ret [] (by decide) (.cons (.tmp rfl) .nil) rfl
    · refine Wp.skip ?_
      refine Wp.join0 (⟨[(3, (.ptr 3 0)), (5, (iAV r4)), (6, (.ptr 6 0))], [(3, .cells (Vec.cells point)), (6, .cells (AABB.cells x6))], [2]⟩) ((law23_BodyFixtureAt_j2 point r4 x6) = some r) ?_ ?_
      · intro h
        refine let_e h fun r11 hr11 h => ?_
        refine let_e h fun r12 hr12 h => ?_
        refine bind_e h fun r13 hr13 h => ?_
        refine let_e h fun x14 hx14 h => ?_
        refine Wp.seq ?_
        refine Wp.drawn2 (n0 := 12) [2] mixed ?_
        refine GoD.q rfl (QEx.move rfl (.tmp rfl)) rfl (lt_b rfl) ?_
        refine GoD.q rfl (QEx.lssK rfl (.tmp rfl) .con) rfl (lt_b rfl) ?_
        refine GoD.q rfl (QEx.move rfl (.tmp rfl)) rfl (lt_b rfl) ?_
        refine GoD.gr rfl rfl rfl rfl (fun hg => QEx.ldP (AABB.cells x6) (AABB.av x6) rfl ag48 ts48 (.tmp rfl) (le_b rfl) rfl) rfl (lt_b rfl) ?_
        refine GoD.g rfl rfl rfl (fun hg => QEx.cal0 (r := (AABB.av r11)) [(AABB.av x6), (iAV 2)] rfl Try.call21 (.cons (.opt (.tmp rfl) hg) (.cons .con .nil)) (aabb_Expand_ok hr11) rfl rfl) rfl (lt_b rfl) ?_
        refine GoD.gr rfl rfl rfl rfl (fun hg => QEx.ldP (Vec.cells point) (Vec.av point) rfl ag24 ts24 (.tmp rfl) (le_b rfl) rfl) rfl (lt_b rfl) ?_
        refine GoD.g rfl rfl rfl (fun hg => QEx.cal0 (r := (boolAV r12)) [(AABB.av r11), (Vec.av point)] rfl Try.call20 (.cons (.opt (.tmp rfl) hg) (.cons (.opt (.tmp rfl) hg) .nil)) (aabb_ContainsPoint_ok hr12) rfl rfl) rfl (lt_b rfl) ?_
        refine GoD.q rfl (QEx.pickK rfl (.tmp rfl) (fun hp => .con) (fun hp => (.opt (.tmp rfl) (beq_f hp)))) rfl (lt_b rfl) ?_
        refine GoD.q rfl (QEx.move rfl (.tmp rfl)) rfl (lt_b rfl) ?_
        refine GoD.g rfl rfl rfl (fun hg => QEx.cal0 (r := (boolAV r13)) [] rfl Try.call8 .nil (law23_example_ok (gcall hr13 hg)) rfl rfl) rfl (lt_b rfl) ?_
        refine GoD.q rfl (QEx.pickK rfl (.tmp rfl) (fun hp => (.opt (.tmp rfl) (beq_t hp))) (fun hp => .con)) rfl (lt_b rfl) ?_
        refine GoD.q rfl (QEx.eq (QEx.assign rfl (.tmp rfl)) (congrArg boolAV hx14)) rfl (lt_b rfl) ?_
        refine GoD.nil ⟨by kernel_rfl, by kernel_rfl, by kernel_rfl, by kernel_rfl, by kernel_rfl, ?_⟩
        refine GoT.nil ?_
        refine Wp.ret ?_
        cases h
        exact LeafQ.ret [] (by decide) (.cons (.tmp rfl) .nil) rfl
      · refine Wp.seq ?_
        refine Wp.region ?_
        refine GoT.q rfl (QEx.as (iAV 0) (QEx.assign rfl .con)) rfl (lt_b rfl) ?_
        refine GoT.nil ?_
        refine Wp.block ?_
        refine Wp.loop1 (fun v7 => ⟨[(2, (.ptr 2 0)), (3, (.ptr 3 0)), (5, (iAV r4)), (6, (.ptr 6 0)), (8, (iAV v7))], [(2, .cells (Body.cells b)), (3, .cells (Vec.cells point)), (6, .cells (AABB.cells x6))], []⟩) (fun n v7 => law23_BodyFixtureAt_l1 b point r4 (law23_BodyFixtureAt_j2 point r4 x6) n v7 = some r) fuel 0 [] [] h (LS.to.mk (.r rfl rfl (.r rfl rfl (.b rfl rfl (.r rfl rfl (.b rfl rfl .n))))) (.b rfl rfl rfl (.b rfl rfl rfl (.b rfl rfl rfl .n))) rfl) ?_
        rintro (_ | n2) v7 h
        · exact none_e h
        rw [law23_BodyFixtureAt_l1] at h
        refine Wp.seq ?_
        refine Wp.seq ?_
        refine Wp.region ?_
        refine GoT.q rfl (QEx.move rfl (.tmp rfl)) rfl (lt_b rfl) ?_
        refine GoT.q rfl (QEx.fldP 19 rfl Try.underlying29 rfl ts27 rfl (.tmp rfl) rfl) rfl (lt_b rfl) ?_
        refine GoT.qr rfl rfl (QEx.ldP1 (Body.cells b) ((slAV 10 Fixture.av) b.Fixtures) rfl ag27 (.tmp rfl) rfl) rfl (lt_b rfl) ?_
        refine GoT.q rfl (QEx.lenL rfl ⟨_, Try.underlying27⟩ (.tmp rfl)) rfl (lt_b rfl) ?_
        refine GoT.q rfl (QEx.lssK rfl (.tmp rfl) (.tmp rfl)) rfl (lt_b rfl) ?_
        refine GoT.nil ?_
        refine Wp.condS h rfl (fun h => ?_) (fun h => ?_)
        · refine Wp.skip ?_
          refine Wp.seq ?_
          refine Wp.block ?_
          refine chk_e h fun c8 h => ?_
          refine bind_e h fun r9 hr9 h => ?_
          refine Wp.seq ?_
          refine Wp.drawn2 (n0 := 11) [] mixed ?_
          refine GoD.q rfl (QEx.fldP 19 rfl Try.underlying29 rfl ts27 rfl (.tmp rfl) rfl) rfl (lt_b rfl) ?_
          refine GoD.qr rfl rfl (QEx.ldP1 (Body.cells b) ((slAV 10 Fixture.av) b.Fixtures) rfl ag27 (.tmp rfl) rfl) rfl (lt_b rfl) ?_
          refine GoD.q rfl (QEx.move rfl (.tmp rfl)) rfl (lt_b rfl) ?_
          refine GoD.q rfl (QEx.as (.cptr (Fixture.cells (ix b.Fixtures v7))) (QEx.idxL (E := Fixture.av) rfl et27 (.tmp rfl) (.tmp rfl) c8)) rfl (lt_b rfl) ?_
          refine GoD.q rfl (QEx.fldC (Shape.cells ((ix b.Fixtures v7).Shape)) rfl Try.underlying39 rfl ts37 rfl (.tmp rfl) rfl) rfl (lt_b rfl) ?_
          refine GoD.q rfl (QEx.ldC (x := (Shape.av ((ix b.Fixtures v7).Shape))) rfl ag37 ts37 (.tmp rfl) (.inl ⟨rfl, rfl, rfl⟩)) rfl (lt_b rfl) ?_
          refine GoD.q rfl (QEx.fldP 2 rfl Try.underlying29 rfl ts26 rfl (.tmp rfl) rfl) rfl (lt_b rfl) ?_
          refine GoD.qr rfl rfl (QEx.ldP (Body.cells b) (Transform.av b.Transform) rfl ag26 ts26 (.tmp rfl) (le_b rfl) rfl) rfl (lt_b rfl) ?_
          refine GoD.qr rfl rfl (QEx.ldP (Vec.cells point) (Vec.av point) rfl ag24 ts24 (.tmp rfl) (le_b rfl) rfl) rfl (lt_b rfl) ?_
          refine GoD.q rfl (QEx.cal0 (r := (boolAV r9)) [(Shape.av ((ix b.Fixtures v7).Shape)), (Transform.av b.Transform), (Vec.av point)] rfl Try.call19 (.cons (.tmp rfl) (.cons (.tmp rfl) (.cons (.tmp rfl) .nil))) (shape_ContainsPoint_ok hr9) rfl rfl) rfl (lt_b rfl) ?_
          refine GoD.q rfl (QEx.assign rfl (.tmp rfl)) rfl (lt_b rfl) ?_
          refine GoD.nil ⟨by kernel_rfl, by kernel_rfl, by kernel_rfl, by kernel_rfl, by kernel_rfl, ?_⟩
          refine GoT.nil ?_
          refine Wp.seq ?_
          refine Wp.region ?_
          refine GoT.q rfl (QEx.move rfl (.tmp rfl)) rfl (lt_b rfl) ?_
          refine GoT.q rfl (QEx.move rfl (.tmp rfl)) rfl (lt_b rfl) ?_
          refine GoT.g rfl rfl rfl (fun hg => QEx.move rfl (.tmp rfl)) rfl (lt_b rfl) ?_
          refine GoT.g rfl rfl rfl (fun hg => QEx.lssK rfl (.opt (.tmp rfl) hg) .con) rfl (lt_b rfl) ?_
          refine GoT.g rfl rfl rfl (fun hg => QEx.move rfl (.opt (.tmp rfl) hg)) rfl (lt_b rfl) ?_
          refine GoT.g2 rfl rfl rfl (fun hg => QEx.move rfl (.tmp rfl)) rfl (lt_b rfl) ?_
          refine GoT.g2 rfl rfl rfl (fun hg => QEx.move rfl (.tmp rfl)) rfl (lt_b rfl) ?_
          refine GoT.g2 rfl rfl rfl (fun hg => QEx.lssK rfl (.opt (.tmp rfl) hg) (.opt (.tmp rfl) hg)) rfl (lt_b rfl) ?_
          refine GoT.g rfl rfl rfl (fun hg => QEx.pickK rfl (.opt (.tmp rfl) hg) (fun hp => .con) (fun hp => (.opt (.tmp rfl) (and_i hg (beq_f hp))))) rfl (lt_b rfl) ?_
          refine GoT.q rfl (QEx.pickK rfl (.tmp rfl) (fun hp => (.opt (.tmp rfl) (beq_t hp))) (fun hp => .con)) rfl (lt_b rfl) ?_
          refine GoT.q rfl (QEx.move rfl (.tmp rfl)) rfl (lt_b rfl) ?_
          refine GoT.g rfl rfl rfl (fun hg => QEx.move rfl (.tmp rfl)) rfl (lt_b rfl) ?_
          refine GoT.g rfl rfl rfl (fun hg => QEx.move rfl (.tmp rfl)) rfl (lt_b rfl) ?_
          refine GoT.g rfl rfl rfl (fun hg => QEx.eqlK rfl (.opt (.tmp rfl) hg) (.opt (.tmp rfl) hg)) rfl (lt_b rfl) ?_
          refine GoT.g rfl rfl rfl (fun hg => QEx.move rfl (.opt (.tmp rfl) hg)) rfl (lt_b rfl) ?_
          refine GoT.g2 rfl rfl rfl (fun hg => QEx.move rfl (.tmp rfl)) rfl (lt_b rfl) ?_
          refine GoT.g2 rfl rfl rfl (fun hg => QEx.notK rfl (.opt (.tmp rfl) hg)) rfl (lt_b rfl) ?_
          refine GoT.g rfl rfl rfl (fun hg => QEx.pickK rfl (.opt (.tmp rfl) hg) (fun hp => (.opt (.tmp rfl) (and_i hg (beq_t hp)))) (fun hp => .con)) rfl (lt_b rfl) ?_
          refine GoT.q rfl (QEx.pickK rfl (.tmp rfl) (fun hp => .con) (fun hp => (.opt (.tmp rfl) (beq_f hp)))) rfl (lt_b rfl) ?_
          refine GoT.nil ?_
          refine Wp.condS h rfl (fun h => ?_) (fun h => ?_)
          · refine Wp.seq ?_
            refine Wp.region ?_
            refine GoT.q rfl (QEx.as (boolAV false) (QEx.assign rfl .con)) rfl (lt_b rfl) ?_
            refine GoT.nil ?_
            refine Wp.ret ?_
            cases h
            exact LeafQ.ret [] (by decide) (.cons (.tmp rfl) .nil) rfl
          · refine Wp.skip ?_
            refine let_e h fun x10 hx10 h => ?_
            refine Wp.region ?_
            refine GoT.q rfl (QEx.move rfl (.tmp rfl)) rfl (lt_b rfl) ?_
            refine GoT.q rfl (QEx.addK rfl (.tmp rfl) .con) rfl (lt_b rfl) ?_
            refine GoT.q rfl (QEx.eq (QEx.assign rfl (.tmp rfl)) (congrArg iAV hx10)) rfl (lt_b rfl) ?_
            refine GoT.nil ?_
            exact Round1.mk x10 [] [] h (LS.to.mk (.r rfl rfl (.r rfl rfl (.b rfl rfl (.r rfl rfl (.b rfl rfl .n))))) (.b rfl rfl rfl (.b rfl rfl rfl (.b rfl rfl rfl .n))) rfl)
        · refine Wp.exit ?_
          exact Joined0.mk [2] [] h (LS.to.mk (.r rfl rfl (.b rfl rfl (.r rfl rfl .n))) (.b rfl rfl rfl (.b rfl rfl rfl .n)) rfl)
end GoForm
