/- The program's functions compute their plain forms: printed by gen2.py. No conditions. -/
import Derived.Test.YtnjcfajaigokdaaCxV
import Derived.Test.YtnjcfajaigokdaaF07
import Derived.Test.YtnjcfajaigokdaaProg
set_option linter.all false
set_option maxRecDepth 100000
open Go Go.Cx Go.Proofs Go.RowKit
namespace GoForm
theorem mixed : Try.prog.follows .mixedOrders = true := by kernel_rfl
def Vec.cells (x : Vec) : List AV := [(iAV x.X), (iAV x.Y)]
def Vec.av (x : Vec) : AV := .agg (Vec.cells x)
theorem et22 : ElemT Try.prog 22 5 1 1 := ⟨by kernel_rfl, ⟨Try.t5, (.int .u8 0), by kernel_rfl, by kernel_rfl, by kernel_rfl, by kernel_rfl, by kernel_rfl, by kernel_rfl⟩, by decide⟩
theorem ag5 : tAg Try.prog 5 = some false := by kernel_rfl
theorem ts5 : tSz Try.prog 5 = some 1 := by kernel_rfl
theorem zt32 : ZeroT Try.prog 32 (Vec.cells Vec.zero) := ⟨[(.int .i64 0), (.int .i64 0)], by kernel_rfl, (.v (.v .nil)), by kernel_rfl⟩
theorem ts3 : tSz Try.prog 3 = some 1 := by kernel_rfl
theorem fd32 : ∃ fs, Try.prog.underlying 32 = some (.struct fs) ∧ fs.toList.all (fun f => (tSz Try.prog f.type).isSome) = true := ⟨_, Try.underlying32, by kernel_rfl⟩
theorem ts32 : tSz Try.prog 32 = some 2 := by kernel_rfl
theorem ag32 : tAg Try.prog 32 = some true := by kernel_rfl
theorem eq32 : EqT Try.prog 32 Vec.av Vec.beq := by
  refine ⟨by kernel_rfl, fun x => [.int .i64 x.X, .int .i64 x.Y], fun x => rfl, fun w x y => ?_⟩
  rw [run_equalIn_struct w 9999 32 _ _ (by kernel_rfl) (by kernel_rfl)]
  simp [Program.fieldsOf, Op.eqFields, go_sem, if_ok, Vec.beq, Try.underlying3, Try.underlying32]
theorem et53 : ElemT Try.prog 53 3 1 8 := ⟨by kernel_rfl, ⟨Try.t3, (.int .i64 0), by kernel_rfl, by kernel_rfl, by kernel_rfl, by kernel_rfl, by kernel_rfl, by kernel_rfl⟩, by decide⟩
theorem ag3 : tAg Try.prog 3 = some false := by kernel_rfl
theorem law07_small_ok {b : List UInt8} {s : List UInt8} {l : List Int} {r : Bool} (h : law07_small b s l = r) : FnR Try.prog 9 [((slAV 1 byteAV) b), (strAV s), ((slAV 1 iAV) l)] (boolAV r) := by
  refine FnR.intro' (fn := Try.f9) (N := 20) Try.func9 rfl rfl (Nat.le_of_ble_eq_true rfl) [7, 16] ?_
  refine Wp.seq ?_
  refine Wp.region ?_
  refine GoT.q rfl (QEx.as (boolAV false) (QEx.assign rfl .con)) rfl (lt_b rfl) ?_
  refine GoT.nil ?_
  refine let_e h fun x1 hx1 h => ?_
  refine Wp.seq ?_
  refine Wp.region ?_
  refine GoT.q rfl (QEx.move rfl (.tmp rfl)) rfl (lt_b rfl) ?_
  refine GoT.q rfl (QEx.lenL rfl ⟨_, Try.underlying22⟩ (.tmp rfl)) rfl (lt_b rfl) ?_
  refine GoT.q rfl (QEx.leqK rfl (.tmp rfl) .con) rfl (lt_b rfl) ?_
  refine GoT.q rfl (QEx.move rfl (.tmp rfl)) rfl (lt_b rfl) ?_
  refine GoT.g rfl rfl rfl (fun hg => QEx.move rfl (.tmp rfl)) rfl (lt_b rfl) ?_
  refine GoT.g rfl rfl rfl (fun hg => QEx.lenStr rfl Try.underlying9 (.opt (.tmp rfl) hg)) rfl (lt_b rfl) ?_
  refine GoT.g rfl rfl rfl (fun hg => QEx.leqK rfl (.opt (.tmp rfl) hg) .con) rfl (lt_b rfl) ?_
  refine GoT.q rfl (QEx.pickK rfl (.tmp rfl) (fun hp => (.opt (.tmp rfl) (beq_t hp))) (fun hp => .con)) rfl (lt_b rfl) ?_
  refine GoT.q rfl (QEx.move rfl (.tmp rfl)) rfl (lt_b rfl) ?_
  refine GoT.g rfl rfl rfl (fun hg => QEx.move rfl (.tmp rfl)) rfl (lt_b rfl) ?_
  refine GoT.g rfl rfl rfl (fun hg => QEx.lenL rfl ⟨_, Try.underlying53⟩ (.opt (.tmp rfl) hg)) rfl (lt_b rfl) ?_
  refine GoT.g rfl rfl rfl (fun hg => QEx.leqK rfl (.opt (.tmp rfl) hg) .con) rfl (lt_b rfl) ?_
  refine GoT.q rfl (QEx.pickK rfl (.tmp rfl) (fun hp => (.opt (.tmp rfl) (beq_t hp))) (fun hp => .con)) rfl (lt_b rfl) ?_
  refine GoT.q rfl (QEx.eq (QEx.assign rfl (.tmp rfl)) (congrArg boolAV hx1)) rfl (lt_b rfl) ?_
  refine GoT.nil ?_
  refine Wp.ret ?_
  cases h
  exact LeafQ.ret [] (by decide) (.cons (.tmp rfl) .nil) rfl
theorem codec_readByte_ok {b : List UInt8} {at_1 : Int} {r : UInt8 × Int} (h : codec_readByte b at_1 = some r) : FnR Try.prog 31 [((slAV 1 byteAV) b), (iAV at_1)] (.tup [(byteAV r.1), (iAV r.2)]) := by
  refine FnR.intro' (fn := Try.f31) (N := 24) Try.func31 rfl rfl (Nat.le_of_ble_eq_true rfl) [11, 17, 20] ?_
  refine Wp.seq ?_
  refine Wp.region ?_
  refine GoT.q rfl (QEx.as (byteAV 0) (QEx.assign rfl (.cb 0 rfl))) rfl (lt_b rfl) ?_
  refine GoT.q rfl (QEx.as (iAV 0) (QEx.assign rfl .con)) rfl (lt_b rfl) ?_
  refine GoT.nil ?_
  refine Wp.seq ?_
  refine Wp.block ?_
  refine let_e h fun x1 hx1 h => ?_
  refine Wp.seq ?_
  refine Wp.region ?_
  refine GoT.q rfl (QEx.move rfl (.tmp rfl)) rfl (lt_b rfl) ?_
  refine GoT.q rfl (QEx.lssK rfl (.tmp rfl) .con) rfl (lt_b rfl) ?_
  refine GoT.q rfl (QEx.move rfl (.tmp rfl)) rfl (lt_b rfl) ?_
  refine GoT.g rfl rfl rfl (fun hg => QEx.move rfl (.tmp rfl)) rfl (lt_b rfl) ?_
  refine GoT.g rfl rfl rfl (fun hg => QEx.move rfl (.tmp rfl)) rfl (lt_b rfl) ?_
  refine GoT.g rfl rfl rfl (fun hg => QEx.lenL rfl ⟨_, Try.underlying22⟩ (.opt (.tmp rfl) hg)) rfl (lt_b rfl) ?_
  refine GoT.g rfl rfl rfl (fun hg => QEx.gtrK rfl (.opt (.tmp rfl) hg) (.opt (.tmp rfl) hg)) rfl (lt_b rfl) ?_
  refine GoT.q rfl (QEx.pickK rfl (.tmp rfl) (fun hp => .con) (fun hp => (.opt (.tmp rfl) (beq_f hp)))) rfl (lt_b rfl) ?_
  refine GoT.q rfl (QEx.eq (QEx.assign rfl (.tmp rfl)) (congrArg boolAV hx1)) rfl (lt_b rfl) ?_
  refine GoT.nil ?_
  refine Wp.condS h rfl (fun h => ?_) (fun h => ?_)
  · refine Wp.seq ?_
    refine Wp.region ?_
    refine GoT.q rfl (QEx.as (byteAV 0) (QEx.assign rfl (.cb 0 rfl))) rfl (lt_b rfl) ?_
    refine GoT.q rfl (QEx.as (iAV 2) (QEx.assign rfl .con)) rfl (lt_b rfl) ?_
    refine GoT.nil ?_
    refine Wp.ret ?_
    cases h
    exact LeafQ.ret [] (by decide) (.cons (.tmp rfl) (.cons (.tmp rfl) .nil)) rfl
  · refine let_e h fun x2 hx2 h => ?_
    refine Wp.seq ?_
    refine Wp.region ?_
    refine GoT.q rfl (QEx.move rfl (.tmp rfl)) rfl (lt_b rfl) ?_
    refine GoT.q rfl (QEx.move rfl (.tmp rfl)) rfl (lt_b rfl) ?_
    refine GoT.q rfl (QEx.lenL rfl ⟨_, Try.underlying22⟩ (.tmp rfl)) rfl (lt_b rfl) ?_
    refine GoT.q rfl (QEx.eqlK rfl (.tmp rfl) (.tmp rfl)) rfl (lt_b rfl) ?_
    refine GoT.q rfl (QEx.eq (QEx.assign rfl (.tmp rfl)) (congrArg boolAV hx2)) rfl (lt_b rfl) ?_
    refine GoT.nil ?_
    refine Wp.condS h rfl (fun h => ?_) (fun h => ?_)
    · refine Wp.seq ?_
      refine Wp.region ?_
      refine GoT.q rfl (QEx.as (byteAV 0) (QEx.assign rfl (.cb 0 rfl))) rfl (lt_b rfl) ?_
      refine GoT.q rfl (QEx.as (iAV 4) (QEx.assign rfl .con)) rfl (lt_b rfl) ?_
      refine GoT.nil ?_
      refine Wp.ret ?_
      cases h
      exact LeafQ.ret [] (by decide) (.cons (.tmp rfl) (.cons (.tmp rfl) .nil)) rfl
    · refine Wp.skip ?_
      refine chk_e h fun c3 h => ?_
      refine let_e h fun x4 hx4 h => ?_
      refine Wp.seq ?_
      refine Wp.region ?_
      refine GoT.q rfl (QEx.move rfl (.tmp rfl)) rfl (lt_b rfl) ?_
      refine GoT.q rfl (QEx.move rfl (.tmp rfl)) rfl (lt_b rfl) ?_
      refine GoT.q rfl (QEx.as (.cptr [(byteAV (ix b at_1))]) (QEx.idxL (E := byteAV) rfl et22 (.tmp rfl) (.tmp rfl) c3)) rfl (lt_b rfl) ?_
      refine GoT.q rfl (QEx.ldC (x := (byteAV (ix b at_1))) rfl ag5 ts5 (.tmp rfl) (.inr ⟨rfl, rfl⟩)) rfl (lt_b rfl) ?_
      refine GoT.q rfl (QEx.eq (QEx.assign rfl (.tmp rfl)) (congrArg byteAV hx4)) rfl (lt_b rfl) ?_
      refine GoT.q rfl (QEx.as (iAV 0) (QEx.assign rfl .con)) rfl (lt_b rfl) ?_
      refine GoT.nil ?_
      refine Wp.ret ?_
      cases h
      exact LeafQ.ret [] (by decide) (.cons (.tmp rfl) (.cons (.tmp rfl) .nil)) rfl
theorem codec_magnitude_ok {n_0 : Int} {r : Int} (h : codec_magnitude n_0 = r) : FnR Try.prog 29 [(iAV n_0)] ((kAV .u64) r) := by
  refine FnR.intro' (fn := Try.f29) (N := 10) Try.func29 rfl rfl (Nat.le_of_ble_eq_true rfl) [] ?_
  refine Wp.seq ?_
  refine Wp.region ?_
  refine GoT.q rfl (QEx.as ((kAV .u64) 0) (QEx.assign rfl .con)) rfl (lt_b rfl) ?_
  refine GoT.nil ?_
  refine Wp.seq ?_
  refine Wp.seq ?_
  refine Wp.region ?_
  refine GoT.q rfl (QEx.move rfl (.tmp rfl)) rfl (lt_b rfl) ?_
  refine GoT.q rfl (QEx.lssK rfl (.tmp rfl) .con) rfl (lt_b rfl) ?_
  refine GoT.nil ?_
  refine Wp.condS h rfl (fun h => ?_) (fun h => ?_)
  · refine let_e h fun x1 hx1 h => ?_
    refine Wp.seq ?_
    refine Wp.region ?_
    refine GoT.q rfl (QEx.move rfl (.tmp rfl)) rfl (lt_b rfl) ?_
    refine GoT.q rfl (QEx.cvKK rfl Try.underlying62 (by rw [Try.underlying3]; rfl) (.tmp rfl)) rfl (lt_b rfl) ?_
    refine GoT.q rfl (QEx.negK rfl (.tmp rfl)) rfl (lt_b rfl) ?_
    refine GoT.q rfl (QEx.eq (QEx.assign rfl (.tmp rfl)) (congrArg (kAV .u64) hx1)) rfl (lt_b rfl) ?_
    refine GoT.nil ?_
    refine Wp.ret ?_
    cases h
    exact LeafQ.ret [] (by decide) (.cons (.tmp rfl) .nil) rfl
  · refine Wp.skip ?_
    refine let_e h fun x2 hx2 h => ?_
    refine Wp.seq ?_
    refine Wp.region ?_
    refine GoT.q rfl (QEx.move rfl (.tmp rfl)) rfl (lt_b rfl) ?_
    refine GoT.q rfl (QEx.cvKK rfl Try.underlying62 (by rw [Try.underlying3]; rfl) (.tmp rfl)) rfl (lt_b rfl) ?_
    refine GoT.q rfl (QEx.eq (QEx.assign rfl (.tmp rfl)) (congrArg (kAV .u64) hx2)) rfl (lt_b rfl) ?_
    refine GoT.nil ?_
    refine Wp.ret ?_
    cases h
    exact LeafQ.ret [] (by decide) (.cons (.tmp rfl) .nil) rfl
theorem codec_ReadInt_ok {b : List UInt8} {at_1 : Int} {r : Int × Int × Int} (h : codec_ReadInt b at_1 = some r) : FnR Try.prog 16 [((slAV 1 byteAV) b), (iAV at_1)] (.tup [(iAV r.1), (iAV r.2.1), (iAV r.2.2)]) := by
  refine FnR.intro' (fn := Try.f16) (N := 86) Try.func16 rfl rfl (Nat.le_of_ble_eq_true rfl) [11, 17, 34, 37, 38, 42, 44, 64] ?_
  refine Wp.seq ?_
  refine Wp.region ?_
  refine GoT.q rfl (QEx.as (iAV 0) (QEx.assign rfl .con)) rfl (lt_b rfl) ?_
  refine GoT.q rfl (QEx.as (iAV 0) (QEx.assign rfl .con)) rfl (lt_b rfl) ?_
  refine GoT.q rfl (QEx.as (iAV 0) (QEx.assign rfl .con)) rfl (lt_b rfl) ?_
  refine GoT.nil ?_
  refine bind_e h fun r1 hr1 h => ?_
  refine Wp.seq ?_
  refine Wp.region ?_
  refine GoT.q rfl (QEx.move rfl (.tmp rfl)) rfl (lt_b rfl) ?_
  refine GoT.q rfl (QEx.move rfl (.tmp rfl)) rfl (lt_b rfl) ?_
  refine GoT.q rfl (QEx.cal0 (r := (.tup [(byteAV r1.1), (iAV r1.2)])) [((slAV 1 byteAV) b), (iAV at_1)] rfl Try.call31 (.cons (.tmp rfl) (.cons (.tmp rfl) .nil)) (codec_readByte_ok hr1) rfl rfl) rfl (lt_b rfl) ?_
  refine GoT.q rfl (QEx.move rfl (.tmp rfl)) rfl (lt_b rfl) ?_
  refine GoT.q rfl (QEx.extract rfl (.tmp rfl) rfl) rfl (lt_b rfl) ?_
  refine GoT.q rfl (QEx.extract rfl (.tmp rfl) rfl) rfl (lt_b rfl) ?_
  refine GoT.q rfl (QEx.assign rfl (.tmp rfl)) rfl (lt_b rfl) ?_
  refine GoT.q rfl (QEx.assign rfl (.tmp rfl)) rfl (lt_b rfl) ?_
  refine GoT.nil ?_
  refine Wp.seq ?_
  refine Wp.seq ?_
  refine Wp.region ?_
  refine GoT.q rfl (QEx.move rfl (.tmp rfl)) rfl (lt_b rfl) ?_
  refine GoT.q rfl (QEx.neqK rfl (.tmp rfl) .con) rfl (lt_b rfl) ?_
  refine GoT.nil ?_
  refine Wp.condS h rfl (fun h => ?_) (fun h => ?_)
  · refine Wp.seq ?_
    refine Wp.region ?_
    refine GoT.q rfl (QEx.move rfl (.tmp rfl)) rfl (lt_b rfl) ?_
    refine GoT.q rfl (QEx.as (iAV 0) (QEx.assign rfl .con)) rfl (lt_b rfl) ?_
    refine GoT.q rfl (QEx.as (iAV 0) (QEx.assign rfl .con)) rfl (lt_b rfl) ?_
    refine GoT.q rfl (QEx.assign rfl (.tmp rfl)) rfl (lt_b rfl) ?_
    refine GoT.nil ?_
    refine Wp.ret ?_
    cases h
    exact LeafQ.ret [] (by decide) (.cons (.tmp rfl) (.cons (.tmp rfl) (.cons (.tmp rfl) .nil))) rfl
  · refine Wp.skip ?_
    refine let_e h fun x2 hx2 h => ?_
    refine let_e h fun x3 hx3 h => ?_
    refine Wp.seq ?_
    refine Wp.region ?_
    refine GoT.q rfl (QEx.move rfl (.tmp rfl)) rfl (lt_b rfl) ?_
    refine GoT.q rfl (QEx.cvCK rfl Try.underlying3 (by rw [Try.underlying5]; rfl) (.tmp rfl) (.inl rfl)) rfl (lt_b rfl) ?_
    refine GoT.q rfl (QEx.move rfl (.tmp rfl)) rfl (lt_b rfl) ?_
    refine GoT.q rfl (QEx.gtrC rfl (.tmp rfl) (.cb 16 rfl)) rfl (lt_b rfl) ?_
    refine GoT.q rfl (QEx.eq (QEx.assign rfl (.tmp rfl)) (congrArg iAV hx2)) rfl (lt_b rfl) ?_
    refine GoT.q rfl (QEx.eq (QEx.assign rfl (.tmp rfl)) (congrArg boolAV hx3)) rfl (lt_b rfl) ?_
    refine GoT.nil ?_
    refine Wp.join1 (fun v4 => ⟨[(0, ((slAV 1 byteAV) b)), (1, (iAV at_1)), (9, (iAV v4)), (10, (boolAV x3))], [], [11, 17, 34, 37, 38, 42, 44, 64]⟩) (fun v4 => (codec_ReadInt_j4 b at_1 x3) v4 = some r) ?_ ?_
    · intro v4 h
      refine Wp.seq ?_
      refine Wp.seq ?_
      refine Wp.region ?_
      refine GoT.q rfl (QEx.move rfl (.tmp rfl)) rfl (lt_b rfl) ?_
      refine GoT.q rfl (QEx.gtrK rfl (.tmp rfl) .con) rfl (lt_b rfl) ?_
      refine GoT.nil ?_
      refine Wp.condS h rfl (fun h => ?_) (fun h => ?_)
      · refine Wp.seq ?_
        refine Wp.region ?_
        refine GoT.q rfl (QEx.as (iAV 0) (QEx.assign rfl .con)) rfl (lt_b rfl) ?_
        refine GoT.q rfl (QEx.as (iAV 0) (QEx.assign rfl .con)) rfl (lt_b rfl) ?_
        refine GoT.q rfl (QEx.as (iAV 3) (QEx.assign rfl .con)) rfl (lt_b rfl) ?_
        refine GoT.nil ?_
        refine Wp.ret ?_
        cases h
        exact LeafQ.ret [] (by decide) (.cons (.tmp rfl) (.cons (.tmp rfl) (.cons (.tmp rfl) .nil))) rfl
      · refine Wp.skip ?_
        refine chk_e h fun c6 h => ?_
        refine let_e h fun x7 hx7 h => ?_
        refine Wp.seq ?_
        refine Wp.region ?_
        refine GoT.q rfl (QEx.move rfl (.tmp rfl)) rfl (lt_b rfl) ?_
        refine GoT.q rfl (QEx.move rfl (.tmp rfl)) rfl (lt_b rfl) ?_
        refine GoT.q rfl (QEx.addK rfl (.tmp rfl) .con) rfl (lt_b rfl) ?_
        refine GoT.q rfl (QEx.slFrom rfl et22 (.tmp rfl) (.tmp rfl) c6) rfl (lt_b rfl) ?_
        refine GoT.q rfl (QEx.eq (QEx.assign rfl (.tmp rfl)) (congrArg (slAV 1 byteAV) hx7)) rfl (lt_b rfl) ?_
        refine GoT.nil ?_
        refine Wp.seq ?_
        refine Wp.seq ?_
        refine Wp.region ?_
        refine GoT.q rfl (QEx.move rfl (.tmp rfl)) rfl (lt_b rfl) ?_
        refine GoT.q rfl (QEx.lenL rfl ⟨_, Try.underlying22⟩ (.tmp rfl)) rfl (lt_b rfl) ?_
        refine GoT.q rfl (QEx.move rfl (.tmp rfl)) rfl (lt_b rfl) ?_
        refine GoT.q rfl (QEx.lssK rfl (.tmp rfl) (.tmp rfl)) rfl (lt_b rfl) ?_
        refine GoT.nil ?_
        refine Wp.condS h rfl (fun h => ?_) (fun h => ?_)
        · refine Wp.seq ?_
          refine Wp.region ?_
          refine GoT.q rfl (QEx.as (iAV 0) (QEx.assign rfl .con)) rfl (lt_b rfl) ?_
          refine GoT.q rfl (QEx.as (iAV 0) (QEx.assign rfl .con)) rfl (lt_b rfl) ?_
          refine GoT.q rfl (QEx.as (iAV 4) (QEx.assign rfl .con)) rfl (lt_b rfl) ?_
          refine GoT.nil ?_
          refine Wp.ret ?_
          cases h
          exact LeafQ.ret [] (by decide) (.cons (.tmp rfl) (.cons (.tmp rfl) (.cons (.tmp rfl) .nil))) rfl
        · refine Wp.skip ?_
          refine Wp.seq ?_
          refine Wp.region ?_
          refine GoT.q rfl (QEx.as ((kAV .u64) 0) (QEx.assign rfl .con)) rfl (lt_b rfl) ?_
          refine GoT.nil ?_
          refine Wp.join1 (fun v8 => ⟨[(1, (iAV at_1)), (9, (iAV v4)), (10, (boolAV x3)), (11, ((slAV 1 byteAV) x7)), (12, ((kAV .u64) v8))], [], [11, 17, 34, 37, 38, 42, 44, 64]⟩) (fun v8 => (codec_ReadInt_j3 at_1 x3 v4 x7) v8 = some r) ?_ ?_
          · intro v8 h
            refine let_e h fun x17 hx17 h => ?_
            refine Wp.seq ?_
            refine Wp.region ?_
            refine GoT.q rfl (QEx.move rfl (.tmp rfl)) rfl (lt_b rfl) ?_
            refine GoT.q rfl (QEx.cvKK rfl Try.underlying3 (by rw [Try.underlying62]; rfl) (.tmp rfl)) rfl (lt_b rfl) ?_
            refine GoT.q rfl (QEx.eq (QEx.assign rfl (.tmp rfl)) (congrArg iAV hx17)) rfl (lt_b rfl) ?_
            refine GoT.nil ?_
            refine Wp.join1 (fun v18 => ⟨[(1, (iAV at_1)), (9, (iAV v4)), (10, (boolAV x3)), (11, ((slAV 1 byteAV) x7)), (12, ((kAV .u64) v8)), (15, (iAV v18))], [], [11, 17, 34, 37, 38, 42, 44, 64]⟩) (fun v18 => (codec_ReadInt_j2 at_1 x3 v4 x7 v8) v18 = some r) ?_ ?_
            · intro v18 h
              refine Wp.seq ?_
              refine chk_e h fun c20 h => ?_
              refine let_e h fun r21 hr21 h => ?_
              refine Wp.seq ?_
              refine Wp.region ?_
              refine GoT.q rfl (QEx.move rfl (.tmp rfl)) rfl (lt_b rfl) ?_
              refine GoT.q rfl (QEx.gtrK rfl (.tmp rfl) .con) rfl (lt_b rfl) ?_
              refine GoT.q rfl (QEx.move rfl (.tmp rfl)) rfl (lt_b rfl) ?_
              refine GoT.g rfl rfl rfl (fun hg => QEx.move rfl (.tmp rfl)) rfl (lt_b rfl) ?_
              refine GoT.g rfl rfl rfl (fun hg => QEx.as (.cptr [(byteAV (ix x7 0))]) (QEx.idxL (E := byteAV) rfl et22 (.opt (.tmp rfl) hg) .con (c20 hg))) rfl (lt_b rfl) ?_
              refine GoT.g rfl rfl rfl (fun hg => QEx.ldC (x := (byteAV (ix x7 0))) rfl ag5 ts5 (.opt (.tmp rfl) hg) (.inr ⟨rfl, rfl⟩)) rfl (lt_b rfl) ?_
              refine GoT.g rfl rfl rfl (fun hg => QEx.eqlC rfl (.opt (.tmp rfl) hg) (.cb 0 rfl)) rfl (lt_b rfl) ?_
              refine GoT.q rfl (QEx.pickK rfl (.tmp rfl) (fun hp => (.opt (.tmp rfl) (beq_t hp))) (fun hp => .con)) rfl (lt_b rfl) ?_
              refine GoT.q rfl (QEx.move rfl (.tmp rfl)) rfl (lt_b rfl) ?_
              refine GoT.g rfl rfl rfl (fun hg => QEx.move rfl (.tmp rfl)) rfl (lt_b rfl) ?_
              refine GoT.g rfl rfl rfl (fun hg => QEx.cal0 (r := ((kAV .u64) r21)) [(iAV v18)] rfl Try.call29 (.cons (.opt (.tmp rfl) hg) .nil) (codec_magnitude_ok hr21) rfl rfl) rfl (lt_b rfl) ?_
              refine GoT.g rfl rfl rfl (fun hg => QEx.move rfl (.tmp rfl)) rfl (lt_b rfl) ?_
              refine GoT.g rfl rfl rfl (fun hg => QEx.neqK rfl (.opt (.tmp rfl) hg) (.opt (.tmp rfl) hg)) rfl (lt_b rfl) ?_
              refine GoT.q rfl (QEx.pickK rfl (.tmp rfl) (fun hp => .con) (fun hp => (.opt (.tmp rfl) (beq_f hp)))) rfl (lt_b rfl) ?_
              refine GoT.q rfl (QEx.move rfl (.tmp rfl)) rfl (lt_b rfl) ?_
              refine GoT.g rfl rfl rfl (fun hg => QEx.move rfl (.tmp rfl)) rfl (lt_b rfl) ?_
              refine GoT.g rfl rfl rfl (fun hg => QEx.lssK rfl (.opt (.tmp rfl) hg) .con) rfl (lt_b rfl) ?_
              refine GoT.g rfl rfl rfl (fun hg => QEx.move rfl (.tmp rfl)) rfl (lt_b rfl) ?_
              refine GoT.g rfl rfl rfl (fun hg => QEx.neqB rfl (.opt (.tmp rfl) hg) (.opt (.tmp rfl) hg) Try.underlying4) rfl (lt_b rfl) ?_
              refine GoT.q rfl (QEx.pickK rfl (.tmp rfl) (fun hp => .con) (fun hp => (.opt (.tmp rfl) (beq_f hp)))) rfl (lt_b rfl) ?_
              refine GoT.nil ?_
              refine Wp.condS h rfl (fun h => ?_) (fun h => ?_)
              · refine Wp.seq ?_
                refine Wp.region ?_
                refine GoT.q rfl (QEx.as (iAV 0) (QEx.assign rfl .con)) rfl (lt_b rfl) ?_
                refine GoT.q rfl (QEx.as (iAV 0) (QEx.assign rfl .con)) rfl (lt_b rfl) ?_
                refine GoT.q rfl (QEx.as (iAV 3) (QEx.assign rfl .con)) rfl (lt_b rfl) ?_
                refine GoT.nil ?_
                refine Wp.ret ?_
                cases h
                exact LeafQ.ret [] (by decide) (.cons (.tmp rfl) (.cons (.tmp rfl) (.cons (.tmp rfl) .nil))) rfl
              · refine Wp.skip ?_
                refine let_e h fun x22 hx22 h => ?_
                refine Wp.seq ?_
                refine Wp.region ?_
                refine GoT.q rfl (QEx.move rfl (.tmp rfl)) rfl (lt_b rfl) ?_
                refine GoT.q rfl (QEx.move rfl (.tmp rfl)) rfl (lt_b rfl) ?_
                refine GoT.q rfl (QEx.addK rfl (.tmp rfl) .con) rfl (lt_b rfl) ?_
                refine GoT.q rfl (QEx.move rfl (.tmp rfl)) rfl (lt_b rfl) ?_
                refine GoT.q rfl (QEx.addK rfl (.tmp rfl) (.tmp rfl)) rfl (lt_b rfl) ?_
                refine GoT.q rfl (QEx.assign rfl (.tmp rfl)) rfl (lt_b rfl) ?_
                refine GoT.q rfl (QEx.eq (QEx.assign rfl (.tmp rfl)) (congrArg iAV hx22)) rfl (lt_b rfl) ?_
                refine GoT.q rfl (QEx.as (iAV 0) (QEx.assign rfl .con)) rfl (lt_b rfl) ?_
                refine GoT.nil ?_
                refine Wp.ret ?_
                cases h
                exact LeafQ.ret [] (by decide) (.cons (.tmp rfl) (.cons (.tmp rfl) (.cons (.tmp rfl) .nil))) rfl
            · refine Wp.seq ?_
              refine Wp.region ?_
              refine GoT.q rfl (QEx.move rfl (.tmp rfl)) rfl (lt_b rfl) ?_
              refine GoT.nil ?_
              refine Wp.condS h rfl (fun h => ?_) (fun h => ?_)
              · refine let_e h fun x19 hx19 h => ?_
                refine Wp.region ?_
                refine GoT.q rfl (QEx.move rfl (.tmp rfl)) rfl (lt_b rfl) ?_
                refine GoT.q rfl (QEx.negK rfl (.tmp rfl)) rfl (lt_b rfl) ?_
                refine GoT.q rfl (QEx.eq (QEx.assign rfl (.tmp rfl)) (congrArg iAV hx19)) rfl (lt_b rfl) ?_
                refine GoT.nil ?_
                exact Joined1.mk x19 [] [] h (LS.to.mk (.b rfl rfl (.b rfl rfl (.b rfl rfl (.b rfl rfl (.b rfl rfl (.b rfl rfl .n)))))) .n rfl)
              · refine Wp.skip ?_
                exact Joined1.mk x17 [] [] h (LS.to.mk (.b rfl rfl (.b rfl rfl (.b rfl rfl (.b rfl rfl (.b rfl rfl (.b rfl rfl .n)))))) .n rfl)
          · refine chk_e h fun c9 h => ?_
            refine let_e h fun x10 hx10 h => ?_
            refine Wp.seq ?_
            refine Wp.region ?_
            refine GoT.q rfl (QEx.move rfl (.tmp rfl)) rfl (lt_b rfl) ?_
            refine GoT.q rfl (QEx.move rfl (.tmp rfl)) rfl (lt_b rfl) ?_
            refine GoT.q rfl (QEx.eq (QEx.slTo rfl et22 (.tmp rfl) (.tmp rfl) c9) (congrArg (slAV 1 byteAV) hx10)) rfl (lt_b rfl) ?_
            refine GoT.q rfl (QEx.lenL rfl ⟨_, Try.underlying22⟩ (.tmp rfl)) rfl (lt_b rfl) ?_
            refine GoT.q rfl (QEx.as (iAV 0) (QEx.move rfl .con)) rfl (lt_b rfl) ?_
            refine GoT.nil ?_
            refine Wp.block ?_
            refine Wp.loop2 (fun v11 v12 => ⟨[(1, (iAV at_1)), (9, (iAV v4)), (10, (boolAV x3)), (11, ((slAV 1 byteAV) x7)), (12, ((kAV .u64) v11)), (44, ((slAV 1 byteAV) x10)), (45, (iAV ((x10).length : Int))), (46, (iAV v12))], [], [11, 17, 34, 37, 38, 42, 44, 64]⟩) (fun n v11 v12 => codec_ReadInt_l1 (codec_ReadInt_j3 at_1 x3 v4 x7) x10 n v11 v12 = some r) fuel 0 0 [] [] h (LS.to.mk (.b rfl rfl (.b rfl rfl (.b rfl rfl (.b rfl rfl (.b rfl rfl (.b rfl rfl (.b rfl rfl (.b rfl rfl .n)))))))) .n rfl) ?_
            rintro (_ | n3) v11 v12 h
            · exact none_e h
            rw [codec_ReadInt_l1] at h
            refine Wp.seq ?_
            refine Wp.region ?_
            refine GoT.q rfl (QEx.lssK rfl (.tmp rfl) (.tmp rfl)) rfl (lt_b rfl) ?_
            refine GoT.nil ?_
            refine Wp.seq ?_
            refine Wp.condS h rfl (fun h => ?_) (fun h => ?_)
            · refine Wp.skip ?_
              refine Wp.seq ?_
              refine Wp.block ?_
              refine chk_e h fun c13 h => ?_
              refine let_e h fun x14 hx14 h => ?_
              refine Wp.seq ?_
              refine Wp.region ?_
              refine GoT.q rfl (QEx.as (.cptr [(byteAV (ix x10 v12))]) (QEx.idxL (E := byteAV) rfl et22 (.tmp rfl) (.tmp rfl) c13)) rfl (lt_b rfl) ?_
              refine GoT.q rfl (QEx.ldC (x := (byteAV (ix x10 v12))) rfl ag5 ts5 (.tmp rfl) (.inr ⟨rfl, rfl⟩)) rfl (lt_b rfl) ?_
              refine GoT.q rfl (QEx.eq (QEx.assign rfl (.tmp rfl)) (congrArg byteAV hx14)) rfl (lt_b rfl) ?_
              refine GoT.nil ?_
              refine let_e h fun x15 hx15 h => ?_
              refine Wp.region ?_
              refine GoT.q rfl (QEx.move rfl (.tmp rfl)) rfl (lt_b rfl) ?_
              refine GoT.q rfl (QEx.shlK rfl (.tmp rfl) .con (by decide)) rfl (lt_b rfl) ?_
              refine GoT.q rfl (QEx.move rfl (.tmp rfl)) rfl (lt_b rfl) ?_
              refine GoT.q rfl (QEx.cvCK rfl Try.underlying62 (by rw [Try.underlying5]; rfl) (.tmp rfl) (.inr (.inl rfl))) rfl (lt_b rfl) ?_
              refine GoT.q rfl (QEx.orK rfl (.tmp rfl) (.tmp rfl)) rfl (lt_b rfl) ?_
              refine GoT.q rfl (QEx.eq (QEx.assign rfl (.tmp rfl)) (congrArg (kAV .u64) hx15)) rfl (lt_b rfl) ?_
              refine GoT.nil ?_
              refine let_e h fun x16 hx16 h => ?_
              refine Wp.region ?_
              refine GoT.q rfl (QEx.addK rfl (.tmp rfl) .con) rfl (lt_b rfl) ?_
              refine GoT.q rfl (QEx.eq (QEx.move rfl (.tmp rfl)) (congrArg iAV hx16)) rfl (lt_b rfl) ?_
              refine GoT.nil ?_
              exact Round2.mk x15 x16 [] [] h (LS.to.mk (.b rfl rfl (.b rfl rfl (.b rfl rfl (.b rfl rfl (.b rfl rfl (.b rfl rfl (.b rfl rfl (.b rfl rfl .n)))))))) .n rfl)
            · refine Wp.exit ?_
              exact Joined1.mk v11 [] [] h (LS.to.mk (.b rfl rfl (.b rfl rfl (.b rfl rfl (.b rfl rfl (.b rfl rfl .n))))) .n rfl)
    · refine Wp.seq ?_
      refine Wp.region ?_
      refine GoT.q rfl (QEx.move rfl (.tmp rfl)) rfl (lt_b rfl) ?_
      refine GoT.nil ?_
      refine Wp.condS h rfl (fun h => ?_) (fun h => ?_)
      · refine let_e h fun x5 hx5 h => ?_
        refine Wp.region ?_
        refine GoT.q rfl (QEx.move rfl (.tmp rfl)) rfl (lt_b rfl) ?_
        refine GoT.q rfl (QEx.subK rfl (.tmp rfl) .con) rfl (lt_b rfl) ?_
        refine GoT.q rfl (QEx.eq (QEx.assign rfl (.tmp rfl)) (congrArg iAV hx5)) rfl (lt_b rfl) ?_
        refine GoT.nil ?_
        exact Joined1.mk x5 [] [] h (LS.to.mk (.b rfl rfl (.b rfl rfl (.b rfl rfl (.b rfl rfl .n)))) .n rfl)
      · refine Wp.skip ?_
        exact Joined1.mk x2 [] [] h (LS.to.mk (.b rfl rfl (.b rfl rfl (.b rfl rfl (.b rfl rfl .n)))) .n rfl)
theorem codec_extend_ok {b : List UInt8} {more : List UInt8} {r : List UInt8} (h : codec_extend b more = some r) : FnR Try.prog 30 [((slAV 1 byteAV) b), ((slAV 1 byteAV) more)] (slT 0 0 1 byteAV r) := by
  refine FnR.intro' (fn := Try.f30) (N := 13) Try.func30 rfl rfl (Nat.le_of_ble_eq_true rfl) [4, 5, 6, 8, 10, 11, 12] ?_
  refine Wp.seq ?_
  refine Wp.region ?_
  refine GoT.q rfl (QEx.as (slT 4 0 1 byteAV ([] : List UInt8)) (QEx.assign rfl (.nil))) rfl (lt_b rfl) ?_
  refine GoT.nil ?_
  refine chk_e h fun c1 h => ?_
  refine let_e h fun x2 hx2 h => ?_
  refine Wp.seq ?_
  refine Wp.region ?_
  refine GoT.q rfl (QEx.move rfl (.tmp rfl)) rfl (lt_b rfl) ?_
  refine GoT.q rfl (QEx.move rfl (.tmp rfl)) rfl (lt_b rfl) ?_
  refine GoT.q rfl (QEx.lenL rfl ⟨_, Try.underlying22⟩ (.tmp rfl)) rfl (lt_b rfl) ?_
  refine GoT.q rfl (QEx.move rfl (.tmp rfl)) rfl (lt_b rfl) ?_
  refine GoT.q rfl (QEx.lenL rfl ⟨_, Try.underlying22⟩ (.tmp rfl)) rfl (lt_b rfl) ?_
  refine GoT.q rfl (QEx.as (slT 10 0 1 byteAV b) (QEx.sl3 (d := 10) rfl et22 (.tmp rfl) (.tmp rfl) (.tmp rfl))) rfl (lt_b rfl) ?_
  refine GoT.q rfl (QEx.move rfl (.tmp rfl)) rfl (lt_b rfl) ?_
  refine GoT.a rfl (AEx.appL (E := byteAV) rfl et22 (.tmp rfl) (.tmp rfl) rfl c1 rfl rfl hx2 (by decide)) rfl (lt_b rfl) ?_
  refine GoT.q rfl (QEx.assign rfl (.tmp rfl)) rfl (lt_b rfl) ?_
  refine GoT.nil ?_
  refine Wp.ret ?_
  cases h
  exact LeafQ.ret [(12, 0)] (by decide) (.cons (.tmp rfl) .nil) rfl
theorem codec_AppendInt_ok {b : List UInt8} {n_1 : Int} {r : List UInt8} (h : codec_AppendInt b n_1 = some r) : FnR Try.prog 11 [((slAV 1 byteAV) b), (iAV n_1)] (slT 0 0 1 byteAV r) := by
  refine FnR.intro' (fn := Try.f11) (N := 32) Try.func11 rfl rfl (Nat.le_of_ble_eq_true rfl) [4, 5, 16, 17, 18, 19, 25, 28, 29, 30, 31] ?_
  refine Wp.seq ?_
  refine Wp.region ?_
  refine GoT.q rfl (QEx.as (slT 4 0 1 byteAV ([] : List UInt8)) (QEx.assign rfl (.nil))) rfl (lt_b rfl) ?_
  refine GoT.nil ?_
  refine Wp.seq ?_
  refine Wp.region ?_
  refine GoT.q rfl (QEx.as (slT 5 0 1 byteAV ([] : List UInt8)) (QEx.assign rfl (.nil))) rfl (lt_b rfl) ?_
  refine GoT.nil ?_
  refine Wp.join1 (fun v1 => ⟨[(0, ((slAV 1 byteAV) b)), (1, (iAV n_1)), (5, (slT 5 0 1 byteAV v1))], [], [4, 16, 17, 18, 19, 25, 28, 29, 30, 31]⟩) (fun v1 => (codec_AppendInt_j3 b n_1) v1 = some r) ?_ ?_
  · intro v1 h
    refine Wp.seq ?_
    refine Wp.region ?_
    refine GoT.q rfl (QEx.move rfl (.tmp rfl)) rfl (lt_b rfl) ?_
    refine GoT.q rfl (QEx.lenL rfl ⟨_, Try.underlying22⟩ (.tmp rfl)) rfl (lt_b rfl) ?_
    refine GoT.q rfl (QEx.assign rfl (.tmp rfl)) rfl (lt_b rfl) ?_
    refine GoT.nil ?_
    refine Wp.join1 (fun v8 => ⟨[(0, ((slAV 1 byteAV) b)), (5, (slT 5 0 1 byteAV v1)), (7, (iAV v8))], [], [4, 16, 17, 18, 19, 25, 28, 29, 30, 31]⟩) (fun v8 => (codec_AppendInt_j2 b v1) v8 = some r) ?_ ?_
    · intro v8 h
      refine bind_e h fun r10 hr10 h => ?_
      refine bind_e h fun r11 hr11 h => ?_
      refine Wp.seq ?_
      refine Wp.region ?_
      refine GoT.q rfl (QEx.move rfl (.tmp rfl)) rfl (lt_b rfl) ?_
      refine GoT.q rfl (QEx.move rfl (.tmp rfl)) rfl (lt_b rfl) ?_
      refine GoT.q rfl (QEx.cvKC rfl Try.underlying5 (by rw [Try.underlying3]; rfl) (.tmp rfl)) rfl (lt_b rfl) ?_
      refine GoT.q rfl (QEx.as (slT 28 0 1 byteAV ([(toByte v8)] : List UInt8)) (QEx.buildSlice rfl et22 (.cons (.tmp rfl) rfl rfl rfl .nil) rfl (by decide))) rfl (lt_b rfl) ?_
      refine GoT.c rfl (QEx.cal (r' := (slT 29 0 1 byteAV r10)) [((slAV 1 byteAV) b), ((slAV 1 byteAV) ([(toByte v8)] : List UInt8))] rfl Try.call30 (.cons (.tmp rfl) (.cons (.tmp rfl) .nil)) (codec_extend_ok hr10) rfl rfl rfl) rfl rfl (lt_b rfl) ?_
      refine GoT.q rfl (QEx.move rfl (.tmp rfl)) rfl (lt_b rfl) ?_
      refine GoT.c rfl (QEx.cal (r' := (slT 31 0 1 byteAV r11)) [((slAV 1 byteAV) r10), ((slAV 1 byteAV) v1)] rfl Try.call30 (.cons (.tmp rfl) (.cons (.tmp rfl) .nil)) (codec_extend_ok hr11) rfl rfl rfl) rfl rfl (lt_b rfl) ?_
      refine GoT.q rfl (QEx.assign rfl (.tmp rfl)) rfl (lt_b rfl) ?_
      refine GoT.nil ?_
      refine Wp.ret ?_
      cases h
      exact LeafQ.ret [(31, 0)] (by decide) (.cons (.tmp rfl) .nil) rfl
    · refine Wp.seq ?_
      refine Wp.region ?_
      refine GoT.q rfl (QEx.move rfl (.tmp rfl)) rfl (lt_b rfl) ?_
      refine GoT.q rfl (QEx.lssK rfl (.tmp rfl) .con) rfl (lt_b rfl) ?_
      refine GoT.nil ?_
      refine Wp.condS h rfl (fun h => ?_) (fun h => ?_)
      · refine let_e h fun x9 hx9 h => ?_
        refine Wp.region ?_
        refine GoT.q rfl (QEx.move rfl (.tmp rfl)) rfl (lt_b rfl) ?_
        refine GoT.q rfl (QEx.addK rfl (.tmp rfl) .con) rfl (lt_b rfl) ?_
        refine GoT.q rfl (QEx.eq (QEx.assign rfl (.tmp rfl)) (congrArg iAV hx9)) rfl (lt_b rfl) ?_
        refine GoT.nil ?_
        exact Joined1.mk x9 [] [] h (LS.to.mk (.b rfl rfl (.r rfl rfl (.b rfl rfl .n))) .n rfl)
      · refine Wp.skip ?_
        exact Joined1.mk ((v1).length : Int) [] [] h (LS.to.mk (.b rfl rfl (.r rfl rfl (.b rfl rfl .n))) .n rfl)
  · refine let_e h fun r2 hr2 h => ?_
    refine Wp.seq ?_
    refine Wp.region ?_
    refine GoT.q rfl (QEx.move rfl (.tmp rfl)) rfl (lt_b rfl) ?_
    refine GoT.q rfl (QEx.cal0 (r := ((kAV .u64) r2)) [(iAV n_1)] rfl Try.call29 (.cons (.tmp rfl) .nil) (codec_magnitude_ok hr2) rfl rfl) rfl (lt_b rfl) ?_
    refine GoT.q rfl (QEx.assign rfl (.tmp rfl)) rfl (lt_b rfl) ?_
    refine GoT.nil ?_
    refine Wp.block ?_
    refine Wp.loop2 (fun v3 v4 => ⟨[(0, ((slAV 1 byteAV) b)), (1, (iAV n_1)), (5, (slT 5 0 1 byteAV v3)), (6, ((kAV .u64) v4))], [], [4, 16, 17, 18, 19, 25, 28, 29, 30, 31]⟩) (fun n v3 v4 => codec_AppendInt_l1 (codec_AppendInt_j3 b n_1) n v3 v4 = some r) fuel ([] : List UInt8) r2 [] [] h (LS.to.mk (.b rfl rfl (.b rfl rfl (.r rfl rfl (.b rfl rfl .n)))) .n rfl) ?_
    rintro (_ | n2) v3 v4 h
    · exact none_e h
    rw [codec_AppendInt_l1] at h
    refine Wp.seq ?_
    refine Wp.seq ?_
    refine Wp.region ?_
    refine GoT.q rfl (QEx.move rfl (.tmp rfl)) rfl (lt_b rfl) ?_
    refine GoT.q rfl (QEx.gtrK rfl (.tmp rfl) .con) rfl (lt_b rfl) ?_
    refine GoT.nil ?_
    refine Wp.condS h rfl (fun h => ?_) (fun h => ?_)
    · refine Wp.skip ?_
      refine Wp.seq ?_
      refine Wp.block ?_
      refine chk_e h fun c5 h => ?_
      refine let_e h fun x6 hx6 h => ?_
      refine Wp.region ?_
      refine GoT.q rfl (QEx.move rfl (.tmp rfl)) rfl (lt_b rfl) ?_
      refine GoT.q rfl (QEx.cvKC rfl Try.underlying5 (by rw [Try.underlying62]; rfl) (.tmp rfl)) rfl (lt_b rfl) ?_
      refine GoT.q rfl (QEx.as (slT 16 0 1 byteAV ([(toByte v4)] : List UInt8)) (QEx.buildSlice rfl et22 (.cons (.tmp rfl) rfl rfl rfl .nil) rfl (by decide))) rfl (lt_b rfl) ?_
      refine GoT.q rfl (QEx.move rfl (.tmp rfl)) rfl (lt_b rfl) ?_
      refine GoT.a rfl (AEx.appL (E := byteAV) rfl et22 (.tmp rfl) (.tmp rfl) rfl c5 rfl rfl hx6 (by decide)) rfl (lt_b rfl) ?_
      refine GoT.q rfl (QEx.assign rfl (.tmp rfl)) rfl (lt_b rfl) ?_
      refine GoT.nil ?_
      refine let_e h fun x7 hx7 h => ?_
      refine Wp.region ?_
      refine GoT.q rfl (QEx.move rfl (.tmp rfl)) rfl (lt_b rfl) ?_
      refine GoT.q rfl (QEx.shrK rfl (.tmp rfl) .con (by decide)) rfl (lt_b rfl) ?_
      refine GoT.q rfl (QEx.eq (QEx.assign rfl (.tmp rfl)) (congrArg (kAV .u64) hx7)) rfl (lt_b rfl) ?_
      refine GoT.nil ?_
      exact Round2.mk x6 x7 [5] [(18, 5)] h (LS.to.mk (.b rfl rfl (.b rfl rfl (.r rfl rfl (.b rfl rfl .n)))) .n rfl)
    · refine Wp.exit ?_
      exact Joined1.mk v3 [] [] h (LS.to.mk (.b rfl rfl (.b rfl rfl (.r rfl rfl .n))) .n rfl)
theorem law07_example_ok {r : Bool} (h : law07_example = some r) : FnR Try.prog 10 [] (boolAV r) := by
  refine FnR.intro' (fn := Try.f10) (N := 49) Try.func10 rfl rfl (Nat.le_of_ble_eq_true rfl) [8, 14, 19, 23] ?_
  refine Wp.seq ?_
  refine Wp.region ?_
  refine GoT.q rfl (QEx.as (boolAV false) (QEx.assign rfl .con)) rfl (lt_b rfl) ?_
  refine GoT.nil ?_
  refine bind_e h fun r1 hr1 h => ?_
  refine Wp.seq ?_
  refine Wp.region ?_
  refine GoT.q rfl (QEx.as (slT 8 0 1 byteAV ([9, 17, 1] : List UInt8)) (QEx.buildSlice rfl et22 (.cons (.cb 9 rfl) rfl rfl rfl (.cons (.cb 17 rfl) rfl rfl rfl (.cons (.cb 1 rfl) rfl rfl rfl .nil))) rfl (by decide))) rfl (lt_b rfl) ?_
  refine GoT.q rfl (QEx.cal0 (r := (.tup [(iAV r1.1), (iAV r1.2.1), (iAV r1.2.2)])) [((slAV 1 byteAV) ([9, 17, 1] : List UInt8)), (iAV 1)] rfl Try.call16 (.cons (.tmp rfl) (.cons .con .nil)) (codec_ReadInt_ok hr1) rfl rfl) rfl (lt_b rfl) ?_
  refine GoT.q rfl (QEx.move rfl (.tmp rfl)) rfl (lt_b rfl) ?_
  refine GoT.q rfl (QEx.extract rfl (.tmp rfl) rfl) rfl (lt_b rfl) ?_
  refine GoT.q rfl (QEx.extract rfl (.tmp rfl) rfl) rfl (lt_b rfl) ?_
  refine GoT.q rfl (QEx.extract rfl (.tmp rfl) rfl) rfl (lt_b rfl) ?_
  refine GoT.q rfl (QEx.assign rfl (.tmp rfl)) rfl (lt_b rfl) ?_
  refine GoT.q rfl (QEx.assign rfl (.tmp rfl)) rfl (lt_b rfl) ?_
  refine GoT.q rfl (QEx.assign rfl (.tmp rfl)) rfl (lt_b rfl) ?_
  refine GoT.nil ?_
  refine bind_e h fun r2 hr2 h => ?_
  refine Wp.seq ?_
  refine Wp.region ?_
  refine GoT.q rfl (QEx.as (slT 14 0 1 byteAV ([1, 0] : List UInt8)) (QEx.buildSlice rfl et22 (.cons (.cb 1 rfl) rfl rfl rfl (.cons (.cb 0 rfl) rfl rfl rfl .nil)) rfl (by decide))) rfl (lt_b rfl) ?_
  refine GoT.q rfl (QEx.cal0 (r := (.tup [(iAV r2.1), (iAV r2.2.1), (iAV r2.2.2)])) [((slAV 1 byteAV) ([1, 0] : List UInt8)), (iAV 0)] rfl Try.call16 (.cons (.tmp rfl) (.cons .con .nil)) (codec_ReadInt_ok hr2) rfl rfl) rfl (lt_b rfl) ?_
  refine GoT.q rfl (QEx.move rfl (.tmp rfl)) rfl (lt_b rfl) ?_
  refine GoT.q rfl (QEx.extract rfl (.tmp rfl) rfl) rfl (lt_b rfl) ?_
  refine GoT.q rfl (QEx.extract rfl (.tmp rfl) rfl) rfl (lt_b rfl) ?_
  refine GoT.q rfl (QEx.extract rfl (.tmp rfl) rfl) rfl (lt_b rfl) ?_
  refine GoT.q rfl (QEx.assign rfl (.tmp rfl)) rfl (lt_b rfl) ?_
  refine GoT.q rfl (QEx.assign rfl (.tmp rfl)) rfl (lt_b rfl) ?_
  refine GoT.q rfl (QEx.assign rfl (.tmp rfl)) rfl (lt_b rfl) ?_
  refine GoT.nil ?_
  refine bind_e h fun r3 hr3 h => ?_
  refine bind_e h fun r4 hr4 h => ?_
  refine bind_e h fun r5 hr5 h => ?_
  refine let_e h fun x6 hx6 h => ?_
  refine Wp.seq ?_
  refine Wp.region ?_
  refine GoT.c rfl (QEx.cal (r' := (slT 19 0 1 byteAV r3)) [((slAV 1 byteAV) ([] : List UInt8)), (iAV 258)] rfl Try.call11 (.cons (.nil (tk := none) (sz := 1)) (.cons .con .nil)) (codec_AppendInt_ok hr3) rfl rfl rfl) rfl rfl (lt_b rfl) ?_
  refine GoT.q rfl (QEx.strOf rfl Try.underlying22 Try.underlying5 Try.underlying9 (.tmp rfl)) rfl (lt_b rfl) ?_
  refine GoT.q rfl (QEx.eqlS rfl (.tmp rfl) (.cs ([2, 1, 2] : List UInt8) rfl)) rfl (lt_b rfl) ?_
  refine GoT.q rfl (QEx.move rfl (.tmp rfl)) rfl (lt_b rfl) ?_
  refine GoT.g rfl rfl rfl (fun hg => QEx.as (slT 23 0 1 byteAV ([5] : List UInt8)) (QEx.buildSlice rfl et22 (.cons (.cb 5 rfl) rfl rfl rfl .nil) rfl (by decide))) rfl (lt_b rfl) ?_
  refine GoT.g rfl rfl rfl (fun hg => QEx.cal0 (r := ((slAV 1 byteAV) r4)) [((slAV 1 byteAV) ([5] : List UInt8)), (iAV (-1))] rfl Try.call11 (.cons (.opt (.tmp rfl) hg) (.cons .con .nil)) (FnR.bare (codec_AppendInt_ok (gcall hr4 hg))) rfl rfl) rfl (lt_b rfl) ?_
  refine GoT.g rfl rfl rfl (fun hg => QEx.strOf rfl Try.underlying22 Try.underlying5 Try.underlying9 (.opt (.tmp rfl) hg)) rfl (lt_b rfl) ?_
  refine GoT.g rfl rfl rfl (fun hg => QEx.eqlS rfl (.opt (.tmp rfl) hg) (.cs ([5, 17, 1] : List UInt8) rfl)) rfl (lt_b rfl) ?_
  refine GoT.q rfl (QEx.pickK rfl (.tmp rfl) (fun hp => (.opt (.tmp rfl) (beq_t hp))) (fun hp => .con)) rfl (lt_b rfl) ?_
  refine GoT.q rfl (QEx.move rfl (.tmp rfl)) rfl (lt_b rfl) ?_
  refine GoT.g rfl rfl rfl (fun hg => QEx.cal0 (r := ((slAV 1 byteAV) r5)) [((slAV 1 byteAV) ([] : List UInt8)), (iAV 0)] rfl Try.call11 (.cons (.nil (tk := none) (sz := 1)) (.cons .con .nil)) (FnR.bare (codec_AppendInt_ok (gcall hr5 hg))) rfl rfl) rfl (lt_b rfl) ?_
  refine GoT.g rfl rfl rfl (fun hg => QEx.strOf rfl Try.underlying22 Try.underlying5 Try.underlying9 (.opt (.tmp rfl) hg)) rfl (lt_b rfl) ?_
  refine GoT.g rfl rfl rfl (fun hg => QEx.eqlS rfl (.opt (.tmp rfl) hg) (.cs ([0] : List UInt8) rfl)) rfl (lt_b rfl) ?_
  refine GoT.q rfl (QEx.pickK rfl (.tmp rfl) (fun hp => (.opt (.tmp rfl) (beq_t hp))) (fun hp => .con)) rfl (lt_b rfl) ?_
  refine GoT.q rfl (QEx.move rfl (.tmp rfl)) rfl (lt_b rfl) ?_
  refine GoT.g rfl rfl rfl (fun hg => QEx.move rfl (.tmp rfl)) rfl (lt_b rfl) ?_
  refine GoT.g rfl rfl rfl (fun hg => QEx.eqlK rfl (.opt (.tmp rfl) hg) .con) rfl (lt_b rfl) ?_
  refine GoT.q rfl (QEx.pickK rfl (.tmp rfl) (fun hp => (.opt (.tmp rfl) (beq_t hp))) (fun hp => .con)) rfl (lt_b rfl) ?_
  refine GoT.q rfl (QEx.move rfl (.tmp rfl)) rfl (lt_b rfl) ?_
  refine GoT.g rfl rfl rfl (fun hg => QEx.move rfl (.tmp rfl)) rfl (lt_b rfl) ?_
  refine GoT.g rfl rfl rfl (fun hg => QEx.eqlK rfl (.opt (.tmp rfl) hg) .con) rfl (lt_b rfl) ?_
  refine GoT.q rfl (QEx.pickK rfl (.tmp rfl) (fun hp => (.opt (.tmp rfl) (beq_t hp))) (fun hp => .con)) rfl (lt_b rfl) ?_
  refine GoT.q rfl (QEx.move rfl (.tmp rfl)) rfl (lt_b rfl) ?_
  refine GoT.g rfl rfl rfl (fun hg => QEx.move rfl (.tmp rfl)) rfl (lt_b rfl) ?_
  refine GoT.g rfl rfl rfl (fun hg => QEx.eqlK rfl (.opt (.tmp rfl) hg) .con) rfl (lt_b rfl) ?_
  refine GoT.q rfl (QEx.pickK rfl (.tmp rfl) (fun hp => (.opt (.tmp rfl) (beq_t hp))) (fun hp => .con)) rfl (lt_b rfl) ?_
  refine GoT.q rfl (QEx.move rfl (.tmp rfl)) rfl (lt_b rfl) ?_
  refine GoT.g rfl rfl rfl (fun hg => QEx.move rfl (.tmp rfl)) rfl (lt_b rfl) ?_
  refine GoT.g rfl rfl rfl (fun hg => QEx.eqlK rfl (.opt (.tmp rfl) hg) .con) rfl (lt_b rfl) ?_
  refine GoT.q rfl (QEx.pickK rfl (.tmp rfl) (fun hp => (.opt (.tmp rfl) (beq_t hp))) (fun hp => .con)) rfl (lt_b rfl) ?_
  refine GoT.q rfl (QEx.eq (QEx.assign rfl (.tmp rfl)) (congrArg boolAV hx6)) rfl (lt_b rfl) ?_
  refine GoT.nil ?_
  refine Wp.ret ?_
  cases h
  exact LeafQ.ret [] (by decide) (.cons (.tmp rfl) .nil) rfl
theorem ref07_ReadInt_ok {b : List UInt8} {at_1 : Int} {r : Int × Int × Int} (h : ref07_ReadInt b at_1 = some r) : FnR Try.prog 17 [((slAV 1 byteAV) b), (iAV at_1)] (.tup [(iAV r.1), (iAV r.2.1), (iAV r.2.2)]) := by
  refine FnR.intro' (fn := Try.f17) (N := 109) Try.func17 rfl rfl (Nat.le_of_ble_eq_true rfl) [15, 20, 23, 46, 60, 71] ?_
  refine Wp.seq ?_
  refine Wp.region ?_
  refine GoT.q rfl (QEx.as (iAV 0) (QEx.assign rfl .con)) rfl (lt_b rfl) ?_
  refine GoT.q rfl (QEx.as (iAV 0) (QEx.assign rfl .con)) rfl (lt_b rfl) ?_
  refine GoT.q rfl (QEx.as (iAV 0) (QEx.assign rfl .con)) rfl (lt_b rfl) ?_
  refine GoT.nil ?_
  refine Wp.seq ?_
  refine Wp.seq ?_
  refine Wp.region ?_
  refine GoT.q rfl (QEx.move rfl (.tmp rfl)) rfl (lt_b rfl) ?_
  refine GoT.q rfl (QEx.lssK rfl (.tmp rfl) .con) rfl (lt_b rfl) ?_
  refine GoT.q rfl (QEx.move rfl (.tmp rfl)) rfl (lt_b rfl) ?_
  refine GoT.g rfl rfl rfl (fun hg => QEx.move rfl (.tmp rfl)) rfl (lt_b rfl) ?_
  refine GoT.g rfl rfl rfl (fun hg => QEx.move rfl (.tmp rfl)) rfl (lt_b rfl) ?_
  refine GoT.g rfl rfl rfl (fun hg => QEx.lenL rfl ⟨_, Try.underlying22⟩ (.opt (.tmp rfl) hg)) rfl (lt_b rfl) ?_
  refine GoT.g rfl rfl rfl (fun hg => QEx.gtrK rfl (.opt (.tmp rfl) hg) (.opt (.tmp rfl) hg)) rfl (lt_b rfl) ?_
  refine GoT.q rfl (QEx.pickK rfl (.tmp rfl) (fun hp => .con) (fun hp => (.opt (.tmp rfl) (beq_f hp)))) rfl (lt_b rfl) ?_
  refine GoT.nil ?_
  refine Wp.condS h rfl (fun h => ?_) (fun h => ?_)
  · refine Wp.seq ?_
    refine Wp.region ?_
    refine GoT.q rfl (QEx.as (iAV 0) (QEx.assign rfl .con)) rfl (lt_b rfl) ?_
    refine GoT.q rfl (QEx.as (iAV 0) (QEx.assign rfl .con)) rfl (lt_b rfl) ?_
    refine GoT.q rfl (QEx.as (iAV 2) (QEx.assign rfl .con)) rfl (lt_b rfl) ?_
    refine GoT.nil ?_
    refine Wp.ret ?_
    cases h
    exact LeafQ.ret [] (by decide) (.cons (.tmp rfl) (.cons (.tmp rfl) (.cons (.tmp rfl) .nil))) rfl
  · refine Wp.skip ?_
    refine Wp.seq ?_
    refine Wp.seq ?_
    refine Wp.region ?_
    refine GoT.q rfl (QEx.move rfl (.tmp rfl)) rfl (lt_b rfl) ?_
    refine GoT.q rfl (QEx.move rfl (.tmp rfl)) rfl (lt_b rfl) ?_
    refine GoT.q rfl (QEx.lenL rfl ⟨_, Try.underlying22⟩ (.tmp rfl)) rfl (lt_b rfl) ?_
    refine GoT.q rfl (QEx.eqlK rfl (.tmp rfl) (.tmp rfl)) rfl (lt_b rfl) ?_
    refine GoT.nil ?_
    refine Wp.condS h rfl (fun h => ?_) (fun h => ?_)
    · refine Wp.seq ?_
      refine Wp.region ?_
      refine GoT.q rfl (QEx.as (iAV 0) (QEx.assign rfl .con)) rfl (lt_b rfl) ?_
      refine GoT.q rfl (QEx.as (iAV 0) (QEx.assign rfl .con)) rfl (lt_b rfl) ?_
      refine GoT.q rfl (QEx.as (iAV 4) (QEx.assign rfl .con)) rfl (lt_b rfl) ?_
      refine GoT.nil ?_
      refine Wp.ret ?_
      cases h
      exact LeafQ.ret [] (by decide) (.cons (.tmp rfl) (.cons (.tmp rfl) (.cons (.tmp rfl) .nil))) rfl
    · refine Wp.skip ?_
      refine chk_e h fun c1 h => ?_
      refine let_e h fun x2 hx2 h => ?_
      refine Wp.seq ?_
      refine Wp.region ?_
      refine GoT.q rfl (QEx.move rfl (.tmp rfl)) rfl (lt_b rfl) ?_
      refine GoT.q rfl (QEx.move rfl (.tmp rfl)) rfl (lt_b rfl) ?_
      refine GoT.q rfl (QEx.as (.cptr [(byteAV (ix b at_1))]) (QEx.idxL (E := byteAV) rfl et22 (.tmp rfl) (.tmp rfl) c1)) rfl (lt_b rfl) ?_
      refine GoT.q rfl (QEx.ldC (x := (byteAV (ix b at_1))) rfl ag5 ts5 (.tmp rfl) (.inr ⟨rfl, rfl⟩)) rfl (lt_b rfl) ?_
      refine GoT.q rfl (QEx.cvCK rfl Try.underlying3 (by rw [Try.underlying5]; rfl) (.tmp rfl) (.inl rfl)) rfl (lt_b rfl) ?_
      refine GoT.q rfl (QEx.eq (QEx.assign rfl (.tmp rfl)) (congrArg iAV hx2)) rfl (lt_b rfl) ?_
      refine GoT.nil ?_
      refine let_e h fun x3 hx3 h => ?_
      refine Wp.seq ?_
      refine Wp.region ?_
      refine GoT.q rfl (QEx.move rfl (.tmp rfl)) rfl (lt_b rfl) ?_
      refine GoT.q rfl (QEx.geqK rfl (.tmp rfl) .con) rfl (lt_b rfl) ?_
      refine GoT.q rfl (QEx.eq (QEx.assign rfl (.tmp rfl)) (congrArg boolAV hx3)) rfl (lt_b rfl) ?_
      refine GoT.nil ?_
      refine Wp.join1 (fun v4 => ⟨[(0, ((slAV 1 byteAV) b)), (1, (iAV at_1)), (7, (iAV v4)), (8, (boolAV x3))], [], [15, 20, 23, 46, 60, 71]⟩) (fun v4 => (ref07_ReadInt_j3 b at_1 x3) v4 = some r) ?_ ?_
      · intro v4 h
        refine Wp.seq ?_
        refine Wp.seq ?_
        refine Wp.region ?_
        refine GoT.q rfl (QEx.move rfl (.tmp rfl)) rfl (lt_b rfl) ?_
        refine GoT.q rfl (QEx.gtrK rfl (.tmp rfl) .con) rfl (lt_b rfl) ?_
        refine GoT.q rfl (QEx.move rfl (.tmp rfl)) rfl (lt_b rfl) ?_
        refine GoT.g rfl rfl rfl (fun hg => QEx.move rfl (.tmp rfl)) rfl (lt_b rfl) ?_
        refine GoT.g rfl rfl rfl (fun hg => QEx.lssK rfl (.opt (.tmp rfl) hg) .con) rfl (lt_b rfl) ?_
        refine GoT.q rfl (QEx.pickK rfl (.tmp rfl) (fun hp => .con) (fun hp => (.opt (.tmp rfl) (beq_f hp)))) rfl (lt_b rfl) ?_
        refine GoT.q rfl (QEx.move rfl (.tmp rfl)) rfl (lt_b rfl) ?_
        refine GoT.g rfl rfl rfl (fun hg => QEx.move rfl (.tmp rfl)) rfl (lt_b rfl) ?_
        refine GoT.g rfl rfl rfl (fun hg => QEx.move rfl (.opt (.tmp rfl) hg)) rfl (lt_b rfl) ?_
        refine GoT.g2 rfl rfl rfl (fun hg => QEx.move rfl (.tmp rfl)) rfl (lt_b rfl) ?_
        refine GoT.g2 rfl rfl rfl (fun hg => QEx.eqlK rfl (.opt (.tmp rfl) hg) .con) rfl (lt_b rfl) ?_
        refine GoT.g rfl rfl rfl (fun hg => QEx.pickK rfl (.opt (.tmp rfl) hg) (fun hp => (.opt (.tmp rfl) (and_i hg (beq_t hp)))) (fun hp => .con)) rfl (lt_b rfl) ?_
        refine GoT.q rfl (QEx.pickK rfl (.tmp rfl) (fun hp => .con) (fun hp => (.opt (.tmp rfl) (beq_f hp)))) rfl (lt_b rfl) ?_
        refine GoT.nil ?_
        refine Wp.condS h rfl (fun h => ?_) (fun h => ?_)
        · refine Wp.seq ?_
          refine Wp.region ?_
          refine GoT.q rfl (QEx.as (iAV 0) (QEx.assign rfl .con)) rfl (lt_b rfl) ?_
          refine GoT.q rfl (QEx.as (iAV 0) (QEx.assign rfl .con)) rfl (lt_b rfl) ?_
          refine GoT.q rfl (QEx.as (iAV 3) (QEx.assign rfl .con)) rfl (lt_b rfl) ?_
          refine GoT.nil ?_
          refine Wp.ret ?_
          cases h
          exact LeafQ.ret [] (by decide) (.cons (.tmp rfl) (.cons (.tmp rfl) (.cons (.tmp rfl) .nil))) rfl
        · refine Wp.skip ?_
          refine Wp.seq ?_
          refine let_e h fun x6 hx6 h => ?_
          refine Wp.seq ?_
          refine Wp.region ?_
          refine GoT.q rfl (QEx.move rfl (.tmp rfl)) rfl (lt_b rfl) ?_
          refine GoT.q rfl (QEx.lenL rfl ⟨_, Try.underlying22⟩ (.tmp rfl)) rfl (lt_b rfl) ?_
          refine GoT.q rfl (QEx.move rfl (.tmp rfl)) rfl (lt_b rfl) ?_
          refine GoT.q rfl (QEx.subK rfl (.tmp rfl) (.tmp rfl)) rfl (lt_b rfl) ?_
          refine GoT.q rfl (QEx.subK rfl (.tmp rfl) .con) rfl (lt_b rfl) ?_
          refine GoT.q rfl (QEx.move rfl (.tmp rfl)) rfl (lt_b rfl) ?_
          refine GoT.q rfl (QEx.eq (QEx.lssK rfl (.tmp rfl) (.tmp rfl)) (congrArg boolAV hx6)) rfl (lt_b rfl) ?_
          refine GoT.nil ?_
          refine Wp.condS h rfl (fun h => ?_) (fun h => ?_)
          · refine Wp.seq ?_
            refine Wp.region ?_
            refine GoT.q rfl (QEx.as (iAV 0) (QEx.assign rfl .con)) rfl (lt_b rfl) ?_
            refine GoT.q rfl (QEx.as (iAV 0) (QEx.assign rfl .con)) rfl (lt_b rfl) ?_
            refine GoT.q rfl (QEx.as (iAV 4) (QEx.assign rfl .con)) rfl (lt_b rfl) ?_
            refine GoT.nil ?_
            refine Wp.ret ?_
            cases h
            exact LeafQ.ret [] (by decide) (.cons (.tmp rfl) (.cons (.tmp rfl) (.cons (.tmp rfl) .nil))) rfl
          · refine Wp.skip ?_
            refine Wp.seq ?_
            refine Wp.region ?_
            refine GoT.q rfl (QEx.as ((kAV .u64) 0) (QEx.assign rfl .con)) rfl (lt_b rfl) ?_
            refine GoT.nil ?_
            refine Wp.join1 (fun v7 => ⟨[(0, ((slAV 1 byteAV) b)), (1, (iAV at_1)), (7, (iAV v4)), (8, (boolAV x3)), (9, ((kAV .u64) v7))], [], [15, 20, 23, 46, 60, 71]⟩) (fun v7 => (ref07_ReadInt_j2 b at_1 x3 v4) v7 = some r) ?_ ?_
            · intro v7 h
              refine Wp.seq ?_
              refine chk_e h fun c13 h => ?_
              refine Wp.seq ?_
              refine Wp.region ?_
              refine GoT.q rfl (QEx.move rfl (.tmp rfl)) rfl (lt_b rfl) ?_
              refine GoT.q rfl (QEx.gtrK rfl (.tmp rfl) .con) rfl (lt_b rfl) ?_
              refine GoT.q rfl (QEx.move rfl (.tmp rfl)) rfl (lt_b rfl) ?_
              refine GoT.g rfl rfl rfl (fun hg => QEx.move rfl (.tmp rfl)) rfl (lt_b rfl) ?_
              refine GoT.g rfl rfl rfl (fun hg => QEx.move rfl (.tmp rfl)) rfl (lt_b rfl) ?_
              refine GoT.g rfl rfl rfl (fun hg => QEx.addK rfl (.opt (.tmp rfl) hg) .con) rfl (lt_b rfl) ?_
              refine GoT.g rfl rfl rfl (fun hg => QEx.as (.cptr [(byteAV (ix b (w64 (at_1 + 1))))]) (QEx.idxL (E := byteAV) rfl et22 (.opt (.tmp rfl) hg) (.opt (.tmp rfl) hg) (c13 hg))) rfl (lt_b rfl) ?_
              refine GoT.g rfl rfl rfl (fun hg => QEx.ldC (x := (byteAV (ix b (w64 (at_1 + 1))))) rfl ag5 ts5 (.opt (.tmp rfl) hg) (.inr ⟨rfl, rfl⟩)) rfl (lt_b rfl) ?_
              refine GoT.g rfl rfl rfl (fun hg => QEx.eqlC rfl (.opt (.tmp rfl) hg) (.cb 0 rfl)) rfl (lt_b rfl) ?_
              refine GoT.q rfl (QEx.pickK rfl (.tmp rfl) (fun hp => (.opt (.tmp rfl) (beq_t hp))) (fun hp => .con)) rfl (lt_b rfl) ?_
              refine GoT.q rfl (QEx.move rfl (.tmp rfl)) rfl (lt_b rfl) ?_
              refine GoT.g rfl rfl rfl (fun hg => QEx.move rfl (.tmp rfl)) rfl (lt_b rfl) ?_
              refine GoT.g rfl rfl rfl (fun hg => QEx.notK rfl (.opt (.tmp rfl) hg)) rfl (lt_b rfl) ?_
              refine GoT.g rfl rfl rfl (fun hg => QEx.move rfl (.opt (.tmp rfl) hg)) rfl (lt_b rfl) ?_
              refine GoT.g2 rfl rfl rfl (fun hg => QEx.move rfl (.tmp rfl)) rfl (lt_b rfl) ?_
              refine GoT.g2 rfl rfl rfl (fun hg => QEx.gtrK rfl (.opt (.tmp rfl) hg) .con) rfl (lt_b rfl) ?_
              refine GoT.g rfl rfl rfl (fun hg => QEx.pickK rfl (.opt (.tmp rfl) hg) (fun hp => (.opt (.tmp rfl) (and_i hg (beq_t hp)))) (fun hp => .con)) rfl (lt_b rfl) ?_
              refine GoT.q rfl (QEx.pickK rfl (.tmp rfl) (fun hp => .con) (fun hp => (.opt (.tmp rfl) (beq_f hp)))) rfl (lt_b rfl) ?_
              refine GoT.q rfl (QEx.move rfl (.tmp rfl)) rfl (lt_b rfl) ?_
              refine GoT.g rfl rfl rfl (fun hg => QEx.move rfl (.tmp rfl)) rfl (lt_b rfl) ?_
              refine GoT.g rfl rfl rfl (fun hg => QEx.move rfl (.opt (.tmp rfl) hg)) rfl (lt_b rfl) ?_
              refine GoT.g2 rfl rfl rfl (fun hg => QEx.move rfl (.tmp rfl)) rfl (lt_b rfl) ?_
              refine GoT.g2 rfl rfl rfl (fun hg => QEx.gtrK rfl (.opt (.tmp rfl) hg) .con) rfl (lt_b rfl) ?_
              refine GoT.g rfl rfl rfl (fun hg => QEx.pickK rfl (.opt (.tmp rfl) hg) (fun hp => (.opt (.tmp rfl) (and_i hg (beq_t hp)))) (fun hp => .con)) rfl (lt_b rfl) ?_
              refine GoT.q rfl (QEx.pickK rfl (.tmp rfl) (fun hp => .con) (fun hp => (.opt (.tmp rfl) (beq_f hp)))) rfl (lt_b rfl) ?_
              refine GoT.nil ?_
              refine Wp.condS h rfl (fun h => ?_) (fun h => ?_)
              · refine Wp.seq ?_
                refine Wp.region ?_
                refine GoT.q rfl (QEx.as (iAV 0) (QEx.assign rfl .con)) rfl (lt_b rfl) ?_
                refine GoT.q rfl (QEx.as (iAV 0) (QEx.assign rfl .con)) rfl (lt_b rfl) ?_
                refine GoT.q rfl (QEx.as (iAV 3) (QEx.assign rfl .con)) rfl (lt_b rfl) ?_
                refine GoT.nil ?_
                refine Wp.ret ?_
                cases h
                exact LeafQ.ret [] (by decide) (.cons (.tmp rfl) (.cons (.tmp rfl) (.cons (.tmp rfl) .nil))) rfl
              · refine Wp.skip ?_
                refine Wp.seq ?_
                refine Wp.seq ?_
                refine Wp.region ?_
                refine GoT.q rfl (QEx.move rfl (.tmp rfl)) rfl (lt_b rfl) ?_
                refine GoT.nil ?_
                refine Wp.condS h rfl (fun h => ?_) (fun h => ?_)
                · refine let_e h fun x14 hx14 h => ?_
                  refine let_e h fun x15 hx15 h => ?_
                  refine Wp.seq ?_
                  refine Wp.region ?_
                  refine GoT.q rfl (QEx.move rfl (.tmp rfl)) rfl (lt_b rfl) ?_
                  refine GoT.q rfl (QEx.subK rfl (.tmp rfl) .con) rfl (lt_b rfl) ?_
                  refine GoT.q rfl (QEx.cvKK rfl Try.underlying3 (by rw [Try.underlying62]; rfl) (.tmp rfl)) rfl (lt_b rfl) ?_
                  refine GoT.q rfl (QEx.negK rfl (.tmp rfl)) rfl (lt_b rfl) ?_
                  refine GoT.q rfl (QEx.subK rfl (.tmp rfl) .con) rfl (lt_b rfl) ?_
                  refine GoT.q rfl (QEx.move rfl (.tmp rfl)) rfl (lt_b rfl) ?_
                  refine GoT.q rfl (QEx.addK rfl (.tmp rfl) .con) rfl (lt_b rfl) ?_
                  refine GoT.q rfl (QEx.move rfl (.tmp rfl)) rfl (lt_b rfl) ?_
                  refine GoT.q rfl (QEx.addK rfl (.tmp rfl) (.tmp rfl)) rfl (lt_b rfl) ?_
                  refine GoT.q rfl (QEx.eq (QEx.assign rfl (.tmp rfl)) (congrArg iAV hx14)) rfl (lt_b rfl) ?_
                  refine GoT.q rfl (QEx.eq (QEx.assign rfl (.tmp rfl)) (congrArg iAV hx15)) rfl (lt_b rfl) ?_
                  refine GoT.q rfl (QEx.as (iAV 0) (QEx.assign rfl .con)) rfl (lt_b rfl) ?_
                  refine GoT.nil ?_
                  refine Wp.ret ?_
                  cases h
                  exact LeafQ.ret [] (by decide) (.cons (.tmp rfl) (.cons (.tmp rfl) (.cons (.tmp rfl) .nil))) rfl
                · refine Wp.skip ?_
                  refine let_e h fun x16 hx16 h => ?_
                  refine let_e h fun x17 hx17 h => ?_
                  refine Wp.seq ?_
                  refine Wp.region ?_
                  refine GoT.q rfl (QEx.move rfl (.tmp rfl)) rfl (lt_b rfl) ?_
                  refine GoT.q rfl (QEx.cvKK rfl Try.underlying3 (by rw [Try.underlying62]; rfl) (.tmp rfl)) rfl (lt_b rfl) ?_
                  refine GoT.q rfl (QEx.move rfl (.tmp rfl)) rfl (lt_b rfl) ?_
                  refine GoT.q rfl (QEx.addK rfl (.tmp rfl) .con) rfl (lt_b rfl) ?_
                  refine GoT.q rfl (QEx.move rfl (.tmp rfl)) rfl (lt_b rfl) ?_
                  refine GoT.q rfl (QEx.addK rfl (.tmp rfl) (.tmp rfl)) rfl (lt_b rfl) ?_
                  refine GoT.q rfl (QEx.eq (QEx.assign rfl (.tmp rfl)) (congrArg iAV hx16)) rfl (lt_b rfl) ?_
                  refine GoT.q rfl (QEx.eq (QEx.assign rfl (.tmp rfl)) (congrArg iAV hx17)) rfl (lt_b rfl) ?_
                  refine GoT.q rfl (QEx.as (iAV 0) (QEx.assign rfl .con)) rfl (lt_b rfl) ?_
                  refine GoT.nil ?_
                  refine Wp.ret ?_
                  cases h
                  exact LeafQ.ret [] (by decide) (.cons (.tmp rfl) (.cons (.tmp rfl) (.cons (.tmp rfl) .nil))) rfl
            · refine Wp.seq ?_
              refine Wp.region ?_
              refine GoT.q rfl (QEx.as (iAV 1) (QEx.assign rfl .con)) rfl (lt_b rfl) ?_
              refine GoT.nil ?_
              refine Wp.block ?_
              refine Wp.loop2 (fun v8 v9 => ⟨[(0, ((slAV 1 byteAV) b)), (1, (iAV at_1)), (7, (iAV v4)), (8, (boolAV x3)), (9, ((kAV .u64) v8)), (10, (iAV v9))], [], [15, 20, 23, 46, 60, 71]⟩) (fun n v8 v9 => ref07_ReadInt_l1 b at_1 v4 (ref07_ReadInt_j2 b at_1 x3 v4) n v8 v9 = some r) fuel 0 1 [] [] h (LS.to.mk (.b rfl rfl (.b rfl rfl (.b rfl rfl (.b rfl rfl (.b rfl rfl (.b rfl rfl .n)))))) .n rfl) ?_
              rintro (_ | n3) v8 v9 h
              · exact none_e h
              rw [ref07_ReadInt_l1] at h
              refine Wp.seq ?_
              refine Wp.seq ?_
              refine Wp.region ?_
              refine GoT.q rfl (QEx.move rfl (.tmp rfl)) rfl (lt_b rfl) ?_
              refine GoT.q rfl (QEx.move rfl (.tmp rfl)) rfl (lt_b rfl) ?_
              refine GoT.q rfl (QEx.leqK rfl (.tmp rfl) (.tmp rfl)) rfl (lt_b rfl) ?_
              refine GoT.nil ?_
              refine Wp.condS h rfl (fun h => ?_) (fun h => ?_)
              · refine Wp.skip ?_
                refine Wp.seq ?_
                refine Wp.block ?_
                refine chk_e h fun c10 h => ?_
                refine let_e h fun x11 hx11 h => ?_
                refine Wp.region ?_
                refine GoT.q rfl (QEx.move rfl (.tmp rfl)) rfl (lt_b rfl) ?_
                refine GoT.q rfl (QEx.mulK rfl (.tmp rfl) .con) rfl (lt_b rfl) ?_
                refine GoT.q rfl (QEx.move rfl (.tmp rfl)) rfl (lt_b rfl) ?_
                refine GoT.q rfl (QEx.move rfl (.tmp rfl)) rfl (lt_b rfl) ?_
                refine GoT.q rfl (QEx.move rfl (.tmp rfl)) rfl (lt_b rfl) ?_
                refine GoT.q rfl (QEx.addK rfl (.tmp rfl) (.tmp rfl)) rfl (lt_b rfl) ?_
                refine GoT.q rfl (QEx.as (.cptr [(byteAV (ix b (w64 (at_1 + v9))))]) (QEx.idxL (E := byteAV) rfl et22 (.tmp rfl) (.tmp rfl) c10)) rfl (lt_b rfl) ?_
                refine GoT.q rfl (QEx.ldC (x := (byteAV (ix b (w64 (at_1 + v9))))) rfl ag5 ts5 (.tmp rfl) (.inr ⟨rfl, rfl⟩)) rfl (lt_b rfl) ?_
                refine GoT.q rfl (QEx.cvCK rfl Try.underlying62 (by rw [Try.underlying5]; rfl) (.tmp rfl) (.inr (.inl rfl))) rfl (lt_b rfl) ?_
                refine GoT.q rfl (QEx.eq (QEx.addK rfl (.tmp rfl) (.tmp rfl)) (congrArg (kAV .u64) hx11)) rfl (lt_b rfl) ?_
                refine GoT.q rfl (QEx.assign rfl (.tmp rfl)) rfl (lt_b rfl) ?_
                refine GoT.nil ?_
                refine let_e h fun x12 hx12 h => ?_
                refine Wp.region ?_
                refine GoT.q rfl (QEx.move rfl (.tmp rfl)) rfl (lt_b rfl) ?_
                refine GoT.q rfl (QEx.addK rfl (.tmp rfl) .con) rfl (lt_b rfl) ?_
                refine GoT.q rfl (QEx.eq (QEx.assign rfl (.tmp rfl)) (congrArg iAV hx12)) rfl (lt_b rfl) ?_
                refine GoT.nil ?_
                exact Round2.mk x11 x12 [] [] h (LS.to.mk (.b rfl rfl (.b rfl rfl (.b rfl rfl (.b rfl rfl (.b rfl rfl (.b rfl rfl .n)))))) .n rfl)
              · refine Wp.exit ?_
                exact Joined1.mk v8 [] [] h (LS.to.mk (.b rfl rfl (.b rfl rfl (.b rfl rfl (.b rfl rfl (.b rfl rfl .n))))) .n rfl)
      · refine Wp.seq ?_
        refine Wp.region ?_
        refine GoT.q rfl (QEx.move rfl (.tmp rfl)) rfl (lt_b rfl) ?_
        refine GoT.nil ?_
        refine Wp.condS h rfl (fun h => ?_) (fun h => ?_)
        · refine let_e h fun x5 hx5 h => ?_
          refine Wp.region ?_
          refine GoT.q rfl (QEx.move rfl (.tmp rfl)) rfl (lt_b rfl) ?_
          refine GoT.q rfl (QEx.subK rfl (.tmp rfl) .con) rfl (lt_b rfl) ?_
          refine GoT.q rfl (QEx.eq (QEx.assign rfl (.tmp rfl)) (congrArg iAV hx5)) rfl (lt_b rfl) ?_
          refine GoT.nil ?_
          exact Joined1.mk x5 [] [] h (LS.to.mk (.b rfl rfl (.b rfl rfl (.b rfl rfl (.b rfl rfl .n)))) .n rfl)
        · refine Wp.skip ?_
          exact Joined1.mk x2 [] [] h (LS.to.mk (.b rfl rfl (.b rfl rfl (.b rfl rfl (.b rfl rfl .n)))) .n rfl)
theorem codec_ReadBool_ok {b : List UInt8} {at_1 : Int} {r : Bool × Int × Int} (h : codec_ReadBool b at_1 = some r) : FnR Try.prog 18 [((slAV 1 byteAV) b), (iAV at_1)] (.tup [(boolAV r.1), (iAV r.2.1), (iAV r.2.2)]) := by
  refine FnR.intro' (fn := Try.f18) (N := 26) Try.func18 rfl rfl (Nat.le_of_ble_eq_true rfl) [10] ?_
  refine Wp.seq ?_
  refine Wp.region ?_
  refine GoT.q rfl (QEx.as (boolAV false) (QEx.assign rfl .con)) rfl (lt_b rfl) ?_
  refine GoT.q rfl (QEx.as (iAV 0) (QEx.assign rfl .con)) rfl (lt_b rfl) ?_
  refine GoT.q rfl (QEx.as (iAV 0) (QEx.assign rfl .con)) rfl (lt_b rfl) ?_
  refine GoT.nil ?_
  refine bind_e h fun r1 hr1 h => ?_
  refine Wp.seq ?_
  refine Wp.region ?_
  refine GoT.q rfl (QEx.move rfl (.tmp rfl)) rfl (lt_b rfl) ?_
  refine GoT.q rfl (QEx.move rfl (.tmp rfl)) rfl (lt_b rfl) ?_
  refine GoT.q rfl (QEx.cal0 (r := (.tup [(byteAV r1.1), (iAV r1.2)])) [((slAV 1 byteAV) b), (iAV at_1)] rfl Try.call31 (.cons (.tmp rfl) (.cons (.tmp rfl) .nil)) (codec_readByte_ok hr1) rfl rfl) rfl (lt_b rfl) ?_
  refine GoT.q rfl (QEx.move rfl (.tmp rfl)) rfl (lt_b rfl) ?_
  refine GoT.q rfl (QEx.extract rfl (.tmp rfl) rfl) rfl (lt_b rfl) ?_
  refine GoT.q rfl (QEx.extract rfl (.tmp rfl) rfl) rfl (lt_b rfl) ?_
  refine GoT.q rfl (QEx.assign rfl (.tmp rfl)) rfl (lt_b rfl) ?_
  refine GoT.q rfl (QEx.assign rfl (.tmp rfl)) rfl (lt_b rfl) ?_
  refine GoT.nil ?_
  refine Wp.seq ?_
  refine Wp.block ?_
  refine let_e h fun x2 hx2 h => ?_
  refine Wp.seq ?_
  refine Wp.region ?_
  refine GoT.q rfl (QEx.move rfl (.tmp rfl)) rfl (lt_b rfl) ?_
  refine GoT.q rfl (QEx.neqK rfl (.tmp rfl) .con) rfl (lt_b rfl) ?_
  refine GoT.q rfl (QEx.eq (QEx.assign rfl (.tmp rfl)) (congrArg boolAV hx2)) rfl (lt_b rfl) ?_
  refine GoT.nil ?_
  refine Wp.condS h rfl (fun h => ?_) (fun h => ?_)
  · refine Wp.seq ?_
    refine Wp.region ?_
    refine GoT.q rfl (QEx.move rfl (.tmp rfl)) rfl (lt_b rfl) ?_
    refine GoT.q rfl (QEx.as (boolAV false) (QEx.assign rfl .con)) rfl (lt_b rfl) ?_
    refine GoT.q rfl (QEx.as (iAV 0) (QEx.assign rfl .con)) rfl (lt_b rfl) ?_
    refine GoT.q rfl (QEx.assign rfl (.tmp rfl)) rfl (lt_b rfl) ?_
    refine GoT.nil ?_
    refine Wp.ret ?_
    cases h
    exact LeafQ.ret [] (by decide) (.cons (.tmp rfl) (.cons (.tmp rfl) (.cons (.tmp rfl) .nil))) rfl
  · refine let_e h fun x3 hx3 h => ?_
    refine Wp.seq ?_
    refine Wp.region ?_
    refine GoT.q rfl (QEx.move rfl (.tmp rfl)) rfl (lt_b rfl) ?_
    refine GoT.q rfl (QEx.gtrC rfl (.tmp rfl) (.cb 1 rfl)) rfl (lt_b rfl) ?_
    refine GoT.q rfl (QEx.eq (QEx.assign rfl (.tmp rfl)) (congrArg boolAV hx3)) rfl (lt_b rfl) ?_
    refine GoT.nil ?_
    refine Wp.condS h rfl (fun h => ?_) (fun h => ?_)
    · refine Wp.seq ?_
      refine Wp.region ?_
      refine GoT.q rfl (QEx.as (boolAV false) (QEx.assign rfl .con)) rfl (lt_b rfl) ?_
      refine GoT.q rfl (QEx.as (iAV 0) (QEx.assign rfl .con)) rfl (lt_b rfl) ?_
      refine GoT.q rfl (QEx.as (iAV 3) (QEx.assign rfl .con)) rfl (lt_b rfl) ?_
      refine GoT.nil ?_
      refine Wp.ret ?_
      cases h
      exact LeafQ.ret [] (by decide) (.cons (.tmp rfl) (.cons (.tmp rfl) (.cons (.tmp rfl) .nil))) rfl
    · refine Wp.skip ?_
      refine let_e h fun x4 hx4 h => ?_
      refine let_e h fun x5 hx5 h => ?_
      refine Wp.seq ?_
      refine Wp.region ?_
      refine GoT.q rfl (QEx.move rfl (.tmp rfl)) rfl (lt_b rfl) ?_
      refine GoT.q rfl (QEx.eqlC rfl (.tmp rfl) (.cb 1 rfl)) rfl (lt_b rfl) ?_
      refine GoT.q rfl (QEx.move rfl (.tmp rfl)) rfl (lt_b rfl) ?_
      refine GoT.q rfl (QEx.addK rfl (.tmp rfl) .con) rfl (lt_b rfl) ?_
      refine GoT.q rfl (QEx.eq (QEx.assign rfl (.tmp rfl)) (congrArg boolAV hx4)) rfl (lt_b rfl) ?_
      refine GoT.q rfl (QEx.eq (QEx.assign rfl (.tmp rfl)) (congrArg iAV hx5)) rfl (lt_b rfl) ?_
      refine GoT.q rfl (QEx.as (iAV 0) (QEx.assign rfl .con)) rfl (lt_b rfl) ?_
      refine GoT.nil ?_
      refine Wp.ret ?_
      cases h
      exact LeafQ.ret [] (by decide) (.cons (.tmp rfl) (.cons (.tmp rfl) (.cons (.tmp rfl) .nil))) rfl
theorem ref07_ReadBool_ok {b : List UInt8} {at_1 : Int} {r : Bool × Int × Int} (h : ref07_ReadBool b at_1 = some r) : FnR Try.prog 19 [((slAV 1 byteAV) b), (iAV at_1)] (.tup [(boolAV r.1), (iAV r.2.1), (iAV r.2.2)]) := by
  refine FnR.intro' (fn := Try.f19) (N := 31) Try.func19 rfl rfl (Nat.le_of_ble_eq_true rfl) [11, 16, 19, 24] ?_
  refine Wp.seq ?_
  refine Wp.region ?_
  refine GoT.q rfl (QEx.as (boolAV false) (QEx.assign rfl .con)) rfl (lt_b rfl) ?_
  refine GoT.q rfl (QEx.as (iAV 0) (QEx.assign rfl .con)) rfl (lt_b rfl) ?_
  refine GoT.q rfl (QEx.as (iAV 0) (QEx.assign rfl .con)) rfl (lt_b rfl) ?_
  refine GoT.nil ?_
  refine Wp.seq ?_
  refine Wp.seq ?_
  refine Wp.region ?_
  refine GoT.q rfl (QEx.move rfl (.tmp rfl)) rfl (lt_b rfl) ?_
  refine GoT.q rfl (QEx.lssK rfl (.tmp rfl) .con) rfl (lt_b rfl) ?_
  refine GoT.q rfl (QEx.move rfl (.tmp rfl)) rfl (lt_b rfl) ?_
  refine GoT.g rfl rfl rfl (fun hg => QEx.move rfl (.tmp rfl)) rfl (lt_b rfl) ?_
  refine GoT.g rfl rfl rfl (fun hg => QEx.move rfl (.tmp rfl)) rfl (lt_b rfl) ?_
  refine GoT.g rfl rfl rfl (fun hg => QEx.lenL rfl ⟨_, Try.underlying22⟩ (.opt (.tmp rfl) hg)) rfl (lt_b rfl) ?_
  refine GoT.g rfl rfl rfl (fun hg => QEx.gtrK rfl (.opt (.tmp rfl) hg) (.opt (.tmp rfl) hg)) rfl (lt_b rfl) ?_
  refine GoT.q rfl (QEx.pickK rfl (.tmp rfl) (fun hp => .con) (fun hp => (.opt (.tmp rfl) (beq_f hp)))) rfl (lt_b rfl) ?_
  refine GoT.nil ?_
  refine Wp.condS h rfl (fun h => ?_) (fun h => ?_)
  · refine Wp.seq ?_
    refine Wp.region ?_
    refine GoT.q rfl (QEx.as (boolAV false) (QEx.assign rfl .con)) rfl (lt_b rfl) ?_
    refine GoT.q rfl (QEx.as (iAV 0) (QEx.assign rfl .con)) rfl (lt_b rfl) ?_
    refine GoT.q rfl (QEx.as (iAV 2) (QEx.assign rfl .con)) rfl (lt_b rfl) ?_
    refine GoT.nil ?_
    refine Wp.ret ?_
    cases h
    exact LeafQ.ret [] (by decide) (.cons (.tmp rfl) (.cons (.tmp rfl) (.cons (.tmp rfl) .nil))) rfl
  · refine Wp.skip ?_
    refine Wp.seq ?_
    refine Wp.seq ?_
    refine Wp.region ?_
    refine GoT.q rfl (QEx.move rfl (.tmp rfl)) rfl (lt_b rfl) ?_
    refine GoT.q rfl (QEx.move rfl (.tmp rfl)) rfl (lt_b rfl) ?_
    refine GoT.q rfl (QEx.lenL rfl ⟨_, Try.underlying22⟩ (.tmp rfl)) rfl (lt_b rfl) ?_
    refine GoT.q rfl (QEx.eqlK rfl (.tmp rfl) (.tmp rfl)) rfl (lt_b rfl) ?_
    refine GoT.nil ?_
    refine Wp.condS h rfl (fun h => ?_) (fun h => ?_)
    · refine Wp.seq ?_
      refine Wp.region ?_
      refine GoT.q rfl (QEx.as (boolAV false) (QEx.assign rfl .con)) rfl (lt_b rfl) ?_
      refine GoT.q rfl (QEx.as (iAV 0) (QEx.assign rfl .con)) rfl (lt_b rfl) ?_
      refine GoT.q rfl (QEx.as (iAV 4) (QEx.assign rfl .con)) rfl (lt_b rfl) ?_
      refine GoT.nil ?_
      refine Wp.ret ?_
      cases h
      exact LeafQ.ret [] (by decide) (.cons (.tmp rfl) (.cons (.tmp rfl) (.cons (.tmp rfl) .nil))) rfl
    · refine Wp.skip ?_
      refine Wp.seq ?_
      refine chk_e h fun c1 h => ?_
      refine Wp.seq ?_
      refine Wp.region ?_
      refine GoT.q rfl (QEx.move rfl (.tmp rfl)) rfl (lt_b rfl) ?_
      refine GoT.q rfl (QEx.move rfl (.tmp rfl)) rfl (lt_b rfl) ?_
      refine GoT.q rfl (QEx.as (.cptr [(byteAV (ix b at_1))]) (QEx.idxL (E := byteAV) rfl et22 (.tmp rfl) (.tmp rfl) c1)) rfl (lt_b rfl) ?_
      refine GoT.q rfl (QEx.ldC (x := (byteAV (ix b at_1))) rfl ag5 ts5 (.tmp rfl) (.inr ⟨rfl, rfl⟩)) rfl (lt_b rfl) ?_
      refine GoT.q rfl (QEx.gtrC rfl (.tmp rfl) (.cb 1 rfl)) rfl (lt_b rfl) ?_
      refine GoT.nil ?_
      refine Wp.condS h rfl (fun h => ?_) (fun h => ?_)
      · refine Wp.seq ?_
        refine Wp.region ?_
        refine GoT.q rfl (QEx.as (boolAV false) (QEx.assign rfl .con)) rfl (lt_b rfl) ?_
        refine GoT.q rfl (QEx.as (iAV 0) (QEx.assign rfl .con)) rfl (lt_b rfl) ?_
        refine GoT.q rfl (QEx.as (iAV 3) (QEx.assign rfl .con)) rfl (lt_b rfl) ?_
        refine GoT.nil ?_
        refine Wp.ret ?_
        cases h
        exact LeafQ.ret [] (by decide) (.cons (.tmp rfl) (.cons (.tmp rfl) (.cons (.tmp rfl) .nil))) rfl
      · refine Wp.skip ?_
        refine chk_e h fun c2 h => ?_
        refine let_e h fun x3 hx3 h => ?_
        refine let_e h fun x4 hx4 h => ?_
        refine Wp.seq ?_
        refine Wp.region ?_
        refine GoT.q rfl (QEx.move rfl (.tmp rfl)) rfl (lt_b rfl) ?_
        refine GoT.q rfl (QEx.move rfl (.tmp rfl)) rfl (lt_b rfl) ?_
        refine GoT.q rfl (QEx.as (.cptr [(byteAV (ix b at_1))]) (QEx.idxL (E := byteAV) rfl et22 (.tmp rfl) (.tmp rfl) c2)) rfl (lt_b rfl) ?_
        refine GoT.q rfl (QEx.ldC (x := (byteAV (ix b at_1))) rfl ag5 ts5 (.tmp rfl) (.inr ⟨rfl, rfl⟩)) rfl (lt_b rfl) ?_
        refine GoT.q rfl (QEx.eqlC rfl (.tmp rfl) (.cb 1 rfl)) rfl (lt_b rfl) ?_
        refine GoT.q rfl (QEx.move rfl (.tmp rfl)) rfl (lt_b rfl) ?_
        refine GoT.q rfl (QEx.addK rfl (.tmp rfl) .con) rfl (lt_b rfl) ?_
        refine GoT.q rfl (QEx.eq (QEx.assign rfl (.tmp rfl)) (congrArg boolAV hx3)) rfl (lt_b rfl) ?_
        refine GoT.q rfl (QEx.eq (QEx.assign rfl (.tmp rfl)) (congrArg iAV hx4)) rfl (lt_b rfl) ?_
        refine GoT.q rfl (QEx.as (iAV 0) (QEx.assign rfl .con)) rfl (lt_b rfl) ?_
        refine GoT.nil ?_
        refine Wp.ret ?_
        cases h
        exact LeafQ.ret [] (by decide) (.cons (.tmp rfl) (.cons (.tmp rfl) (.cons (.tmp rfl) .nil))) rfl
theorem codec_ReadVec_ok {b : List UInt8} {at_1 : Int} {r : Vec × Int × Int} (h : codec_ReadVec b at_1 = some r) : FnR Try.prog 20 [((slAV 1 byteAV) b), (iAV at_1)] (.tup [(Vec.av r.1), (iAV r.2.1), (iAV r.2.2)]) := by
  refine FnR.intro' (fn := Try.f20) (N := 36) Try.func20 rfl rfl (Nat.le_of_ble_eq_true rfl) [4, 11, 22] ?_
  refine Wp.seq ?_
  refine Wp.region ?_
  refine GoT.a rfl (AEx.alZ rfl zt32 rfl rfl) rfl (lt_b rfl) ?_
  refine GoT.q rfl (QEx.as (iAV 0) (QEx.assign rfl .con)) rfl (lt_b rfl) ?_
  refine GoT.q rfl (QEx.as (iAV 0) (QEx.assign rfl .con)) rfl (lt_b rfl) ?_
  refine GoT.nil ?_
  refine bind_e h fun r1 hr1 h => ?_
  refine Wp.seq ?_
  refine Wp.region ?_
  refine GoT.q rfl (QEx.move rfl (.tmp rfl)) rfl (lt_b rfl) ?_
  refine GoT.q rfl (QEx.move rfl (.tmp rfl)) rfl (lt_b rfl) ?_
  refine GoT.q rfl (QEx.cal0 (r := (.tup [(iAV r1.1), (iAV r1.2.1), (iAV r1.2.2)])) [((slAV 1 byteAV) b), (iAV at_1)] rfl Try.call16 (.cons (.tmp rfl) (.cons (.tmp rfl) .nil)) (codec_ReadInt_ok hr1) rfl rfl) rfl (lt_b rfl) ?_
  refine GoT.q rfl (QEx.move rfl (.tmp rfl)) rfl (lt_b rfl) ?_
  refine GoT.q rfl (QEx.extract rfl (.tmp rfl) rfl) rfl (lt_b rfl) ?_
  refine GoT.q rfl (QEx.extract rfl (.tmp rfl) rfl) rfl (lt_b rfl) ?_
  refine GoT.q rfl (QEx.extract rfl (.tmp rfl) rfl) rfl (lt_b rfl) ?_
  refine GoT.q rfl (QEx.assign rfl (.tmp rfl)) rfl (lt_b rfl) ?_
  refine GoT.q rfl (QEx.assign rfl (.tmp rfl)) rfl (lt_b rfl) ?_
  refine GoT.q rfl (QEx.assign rfl (.tmp rfl)) rfl (lt_b rfl) ?_
  refine GoT.nil ?_
  refine Wp.seq ?_
  refine Wp.seq ?_
  refine Wp.region ?_
  refine GoT.q rfl (QEx.move rfl (.tmp rfl)) rfl (lt_b rfl) ?_
  refine GoT.q rfl (QEx.neqK rfl (.tmp rfl) .con) rfl (lt_b rfl) ?_
  refine GoT.nil ?_
  refine Wp.condS h rfl (fun h => ?_) (fun h => ?_)
  · refine let_e h fun x2 hx2 h => ?_
    refine Wp.seq ?_
    refine Wp.region ?_
    refine GoT.q rfl (QEx.as (Vec.av (⟨0, 0⟩ : Vec)) (QEx.buildZ rfl Try.underlying32 zt32 (by kernel_rfl) .nil)) rfl (lt_b rfl) ?_
    refine GoT.q rfl (QEx.move rfl (.tmp rfl)) rfl (lt_b rfl) ?_
    refine GoT.s rfl (AEx.sto (Z := (Vec.cells x2)) rfl rfl ts32 (.tmp rfl) rfl (.tmp rfl) rfl rfl (le_b rfl) (congrArg (fun x => (Vec.cells x)) hx2)) rfl ?_
    refine GoT.q rfl (QEx.as (iAV 0) (QEx.assign rfl .con)) rfl (lt_b rfl) ?_
    refine GoT.q rfl (QEx.assign rfl (.tmp rfl)) rfl (lt_b rfl) ?_
    refine GoT.nil ?_
    refine Wp.ret ?_
    cases h
    exact LeafQ.ret [] (by decide) (.cons (.agg rfl rfl ag32 ts32) (.cons (.tmp rfl) (.cons (.tmp rfl) .nil))) rfl
  · refine Wp.skip ?_
    refine bind_e h fun r3 hr3 h => ?_
    refine Wp.seq ?_
    refine Wp.region ?_
    refine GoT.q rfl (QEx.move rfl (.tmp rfl)) rfl (lt_b rfl) ?_
    refine GoT.q rfl (QEx.move rfl (.tmp rfl)) rfl (lt_b rfl) ?_
    refine GoT.q rfl (QEx.cal0 (r := (.tup [(iAV r3.1), (iAV r3.2.1), (iAV r3.2.2)])) [((slAV 1 byteAV) b), (iAV r1.2.1)] rfl Try.call16 (.cons (.tmp rfl) (.cons (.tmp rfl) .nil)) (codec_ReadInt_ok hr3) rfl rfl) rfl (lt_b rfl) ?_
    refine GoT.q rfl (QEx.move rfl (.tmp rfl)) rfl (lt_b rfl) ?_
    refine GoT.q rfl (QEx.extract rfl (.tmp rfl) rfl) rfl (lt_b rfl) ?_
    refine GoT.q rfl (QEx.extract rfl (.tmp rfl) rfl) rfl (lt_b rfl) ?_
    refine GoT.q rfl (QEx.extract rfl (.tmp rfl) rfl) rfl (lt_b rfl) ?_
    refine GoT.q rfl (QEx.assign rfl (.tmp rfl)) rfl (lt_b rfl) ?_
    refine GoT.q rfl (QEx.assign rfl (.tmp rfl)) rfl (lt_b rfl) ?_
    refine GoT.q rfl (QEx.assign rfl (.tmp rfl)) rfl (lt_b rfl) ?_
    refine GoT.nil ?_
    refine Wp.seq ?_
    refine Wp.seq ?_
    refine Wp.region ?_
    refine GoT.q rfl (QEx.move rfl (.tmp rfl)) rfl (lt_b rfl) ?_
    refine GoT.q rfl (QEx.neqK rfl (.tmp rfl) .con) rfl (lt_b rfl) ?_
    refine GoT.nil ?_
    refine Wp.condS h rfl (fun h => ?_) (fun h => ?_)
    · refine let_e h fun x4 hx4 h => ?_
      refine Wp.seq ?_
      refine Wp.region ?_
      refine GoT.q rfl (QEx.as (Vec.av (⟨0, 0⟩ : Vec)) (QEx.buildZ rfl Try.underlying32 zt32 (by kernel_rfl) .nil)) rfl (lt_b rfl) ?_
      refine GoT.q rfl (QEx.move rfl (.tmp rfl)) rfl (lt_b rfl) ?_
      refine GoT.s rfl (AEx.sto (Z := (Vec.cells x4)) rfl rfl ts32 (.tmp rfl) rfl (.tmp rfl) rfl rfl (le_b rfl) (congrArg (fun x => (Vec.cells x)) hx4)) rfl ?_
      refine GoT.q rfl (QEx.as (iAV 0) (QEx.assign rfl .con)) rfl (lt_b rfl) ?_
      refine GoT.q rfl (QEx.assign rfl (.tmp rfl)) rfl (lt_b rfl) ?_
      refine GoT.nil ?_
      refine Wp.ret ?_
      cases h
      exact LeafQ.ret [] (by decide) (.cons (.agg rfl rfl ag32 ts32) (.cons (.tmp rfl) (.cons (.tmp rfl) .nil))) rfl
    · refine Wp.skip ?_
      refine let_e h fun x5 hx5 h => ?_
      refine Wp.seq ?_
      refine Wp.region ?_
      refine GoT.q rfl (QEx.move rfl (.tmp rfl)) rfl (lt_b rfl) ?_
      refine GoT.q rfl (QEx.move rfl (.tmp rfl)) rfl (lt_b rfl) ?_
      refine GoT.q rfl (QEx.as (Vec.av (⟨r1.1, r3.1⟩ : Vec)) (QEx.buildZ rfl Try.underlying32 zt32 (by kernel_rfl) (.cons rfl (.tmp rfl) rfl rfl (le_b rfl) (.cons rfl (.tmp rfl) rfl rfl (le_b rfl) .nil)))) rfl (lt_b rfl) ?_
      refine GoT.q rfl (QEx.move rfl (.tmp rfl)) rfl (lt_b rfl) ?_
      refine GoT.s rfl (AEx.sto (Z := (Vec.cells x5)) rfl rfl ts32 (.tmp rfl) rfl (.tmp rfl) rfl rfl (le_b rfl) (congrArg (fun x => (Vec.cells x)) hx5)) rfl ?_
      refine GoT.q rfl (QEx.assign rfl (.tmp rfl)) rfl (lt_b rfl) ?_
      refine GoT.q rfl (QEx.as (iAV 0) (QEx.assign rfl .con)) rfl (lt_b rfl) ?_
      refine GoT.nil ?_
      refine Wp.ret ?_
      cases h
      exact LeafQ.ret [] (by decide) (.cons (.agg rfl rfl ag32 ts32) (.cons (.tmp rfl) (.cons (.tmp rfl) .nil))) rfl
theorem ref07_ReadVec_ok {b : List UInt8} {at_1 : Int} {r : Vec × Int × Int} (h : ref07_ReadVec b at_1 = some r) : FnR Try.prog 21 [((slAV 1 byteAV) b), (iAV at_1)] (.tup [(Vec.av r.1), (iAV r.2.1), (iAV r.2.2)]) := by
  refine FnR.intro' (fn := Try.f21) (N := 39) Try.func21 rfl rfl (Nat.le_of_ble_eq_true rfl) [4, 14, 25] ?_
  refine Wp.seq ?_
  refine Wp.region ?_
  refine GoT.a rfl (AEx.alZ rfl zt32 rfl rfl) rfl (lt_b rfl) ?_
  refine GoT.q rfl (QEx.as (iAV 0) (QEx.assign rfl .con)) rfl (lt_b rfl) ?_
  refine GoT.q rfl (QEx.as (iAV 0) (QEx.assign rfl .con)) rfl (lt_b rfl) ?_
  refine GoT.nil ?_
  refine bind_e h fun r1 hr1 h => ?_
  refine Wp.seq ?_
  refine Wp.region ?_
  refine GoT.q rfl (QEx.move rfl (.tmp rfl)) rfl (lt_b rfl) ?_
  refine GoT.q rfl (QEx.move rfl (.tmp rfl)) rfl (lt_b rfl) ?_
  refine GoT.q rfl (QEx.cal0 (r := (.tup [(iAV r1.1), (iAV r1.2.1), (iAV r1.2.2)])) [((slAV 1 byteAV) b), (iAV at_1)] rfl Try.call17 (.cons (.tmp rfl) (.cons (.tmp rfl) .nil)) (ref07_ReadInt_ok hr1) rfl rfl) rfl (lt_b rfl) ?_
  refine GoT.q rfl (QEx.move rfl (.tmp rfl)) rfl (lt_b rfl) ?_
  refine GoT.q rfl (QEx.extract rfl (.tmp rfl) rfl) rfl (lt_b rfl) ?_
  refine GoT.q rfl (QEx.extract rfl (.tmp rfl) rfl) rfl (lt_b rfl) ?_
  refine GoT.q rfl (QEx.extract rfl (.tmp rfl) rfl) rfl (lt_b rfl) ?_
  refine GoT.q rfl (QEx.assign rfl (.tmp rfl)) rfl (lt_b rfl) ?_
  refine GoT.q rfl (QEx.assign rfl (.tmp rfl)) rfl (lt_b rfl) ?_
  refine GoT.q rfl (QEx.assign rfl (.tmp rfl)) rfl (lt_b rfl) ?_
  refine GoT.nil ?_
  refine Wp.seq ?_
  refine Wp.seq ?_
  refine Wp.region ?_
  refine GoT.q rfl (QEx.move rfl (.tmp rfl)) rfl (lt_b rfl) ?_
  refine GoT.q rfl (QEx.neqK rfl (.tmp rfl) .con) rfl (lt_b rfl) ?_
  refine GoT.nil ?_
  refine Wp.condS h rfl (fun h => ?_) (fun h => ?_)
  · refine let_e h fun x2 hx2 h => ?_
    refine Wp.seq ?_
    refine Wp.region ?_
    refine GoT.q rfl (QEx.as (Vec.av (⟨0, 0⟩ : Vec)) (QEx.buildZ rfl Try.underlying32 zt32 (by kernel_rfl) .nil)) rfl (lt_b rfl) ?_
    refine GoT.q rfl (QEx.move rfl (.tmp rfl)) rfl (lt_b rfl) ?_
    refine GoT.s rfl (AEx.sto (Z := (Vec.cells x2)) rfl rfl ts32 (.tmp rfl) rfl (.tmp rfl) rfl rfl (le_b rfl) (congrArg (fun x => (Vec.cells x)) hx2)) rfl ?_
    refine GoT.q rfl (QEx.as (iAV 0) (QEx.assign rfl .con)) rfl (lt_b rfl) ?_
    refine GoT.q rfl (QEx.assign rfl (.tmp rfl)) rfl (lt_b rfl) ?_
    refine GoT.nil ?_
    refine Wp.ret ?_
    cases h
    exact LeafQ.ret [] (by decide) (.cons (.agg rfl rfl ag32 ts32) (.cons (.tmp rfl) (.cons (.tmp rfl) .nil))) rfl
  · refine Wp.skip ?_
    refine bind_e h fun r3 hr3 h => ?_
    refine Wp.seq ?_
    refine Wp.region ?_
    refine GoT.q rfl (QEx.move rfl (.tmp rfl)) rfl (lt_b rfl) ?_
    refine GoT.q rfl (QEx.move rfl (.tmp rfl)) rfl (lt_b rfl) ?_
    refine GoT.q rfl (QEx.cal0 (r := (.tup [(iAV r3.1), (iAV r3.2.1), (iAV r3.2.2)])) [((slAV 1 byteAV) b), (iAV r1.2.1)] rfl Try.call17 (.cons (.tmp rfl) (.cons (.tmp rfl) .nil)) (ref07_ReadInt_ok hr3) rfl rfl) rfl (lt_b rfl) ?_
    refine GoT.q rfl (QEx.move rfl (.tmp rfl)) rfl (lt_b rfl) ?_
    refine GoT.q rfl (QEx.extract rfl (.tmp rfl) rfl) rfl (lt_b rfl) ?_
    refine GoT.q rfl (QEx.extract rfl (.tmp rfl) rfl) rfl (lt_b rfl) ?_
    refine GoT.q rfl (QEx.extract rfl (.tmp rfl) rfl) rfl (lt_b rfl) ?_
    refine GoT.q rfl (QEx.assign rfl (.tmp rfl)) rfl (lt_b rfl) ?_
    refine GoT.q rfl (QEx.assign rfl (.tmp rfl)) rfl (lt_b rfl) ?_
    refine GoT.q rfl (QEx.assign rfl (.tmp rfl)) rfl (lt_b rfl) ?_
    refine GoT.nil ?_
    refine Wp.seq ?_
    refine Wp.seq ?_
    refine Wp.region ?_
    refine GoT.q rfl (QEx.move rfl (.tmp rfl)) rfl (lt_b rfl) ?_
    refine GoT.q rfl (QEx.neqK rfl (.tmp rfl) .con) rfl (lt_b rfl) ?_
    refine GoT.nil ?_
    refine Wp.condS h rfl (fun h => ?_) (fun h => ?_)
    · refine let_e h fun x4 hx4 h => ?_
      refine Wp.seq ?_
      refine Wp.region ?_
      refine GoT.q rfl (QEx.as (Vec.av (⟨0, 0⟩ : Vec)) (QEx.buildZ rfl Try.underlying32 zt32 (by kernel_rfl) .nil)) rfl (lt_b rfl) ?_
      refine GoT.q rfl (QEx.move rfl (.tmp rfl)) rfl (lt_b rfl) ?_
      refine GoT.s rfl (AEx.sto (Z := (Vec.cells x4)) rfl rfl ts32 (.tmp rfl) rfl (.tmp rfl) rfl rfl (le_b rfl) (congrArg (fun x => (Vec.cells x)) hx4)) rfl ?_
      refine GoT.q rfl (QEx.as (iAV 0) (QEx.assign rfl .con)) rfl (lt_b rfl) ?_
      refine GoT.q rfl (QEx.assign rfl (.tmp rfl)) rfl (lt_b rfl) ?_
      refine GoT.nil ?_
      refine Wp.ret ?_
      cases h
      exact LeafQ.ret [] (by decide) (.cons (.agg rfl rfl ag32 ts32) (.cons (.tmp rfl) (.cons (.tmp rfl) .nil))) rfl
    · refine Wp.skip ?_
      refine let_e h fun x5 hx5 h => ?_
      refine Wp.seq ?_
      refine Wp.region ?_
      refine GoT.q rfl (QEx.move rfl (.tmp rfl)) rfl (lt_b rfl) ?_
      refine GoT.q rfl (QEx.move rfl (.tmp rfl)) rfl (lt_b rfl) ?_
      refine GoT.q rfl (QEx.as (Vec.av (⟨r1.1, r3.1⟩ : Vec)) (QEx.buildZ rfl Try.underlying32 zt32 (by kernel_rfl) (.cons rfl (.tmp rfl) rfl rfl (le_b rfl) (.cons rfl (.tmp rfl) rfl rfl (le_b rfl) .nil)))) rfl (lt_b rfl) ?_
      refine GoT.q rfl (QEx.move rfl (.tmp rfl)) rfl (lt_b rfl) ?_
      refine GoT.s rfl (AEx.sto (Z := (Vec.cells x5)) rfl rfl ts32 (.tmp rfl) rfl (.tmp rfl) rfl rfl (le_b rfl) (congrArg (fun x => (Vec.cells x)) hx5)) rfl ?_
      refine GoT.q rfl (QEx.assign rfl (.tmp rfl)) rfl (lt_b rfl) ?_
      refine GoT.q rfl (QEx.as (iAV 0) (QEx.assign rfl .con)) rfl (lt_b rfl) ?_
      refine GoT.nil ?_
      refine Wp.ret ?_
      cases h
      exact LeafQ.ret [] (by decide) (.cons (.agg rfl rfl ag32 ts32) (.cons (.tmp rfl) (.cons (.tmp rfl) .nil))) rfl
theorem law07_CodecScalars_ok {b : List UInt8} {at_1 : Int} {r : Bool} (h : law07_CodecScalars b at_1 = some r) : FnR Try.prog 4 [((slAV 1 byteAV) b), (iAV at_1)] (boolAV r) := by
  refine FnR.intro' (fn := Try.f4) (N := 103) Try.func4 rfl rfl (Nat.le_of_ble_eq_true rfl) [13, 14, 15, 20, 27, 47, 54, 74, 81] ?_
  refine Wp.seq ?_
  refine Wp.region ?_
  refine GoT.q rfl (QEx.as (boolAV false) (QEx.assign rfl .con)) rfl (lt_b rfl) ?_
  refine GoT.nil ?_
  refine Wp.seq ?_
  refine let_e h fun r1 hr1 h => ?_
  refine Wp.seq ?_
  refine Wp.region ?_
  refine GoT.q rfl (QEx.move rfl (.tmp rfl)) rfl (lt_b rfl) ?_
  refine GoT.q rfl (QEx.cal0 (r := (boolAV r1)) [((slAV 1 byteAV) b), (strAV ([] : List UInt8)), ((slAV 1 iAV) ([] : List Int))] rfl Try.call9 (.cons (.tmp rfl) (.cons (.cs ([] : List UInt8) rfl) (.cons (.nil (tk := none) (sz := 1)) .nil))) (law07_small_ok hr1) rfl rfl) rfl (lt_b rfl) ?_
  refine GoT.q rfl (QEx.notK rfl (.tmp rfl)) rfl (lt_b rfl) ?_
  refine GoT.nil ?_
  refine Wp.condS h rfl (fun h => ?_) (fun h => ?_)
  · refine bind_e h fun r2 hr2 h => ?_
    refine Wp.seq ?_
    refine Wp.region ?_
    refine GoT.q rfl (QEx.cal0 (r := (boolAV r2)) [] rfl Try.call10 .nil (law07_example_ok hr2) rfl rfl) rfl (lt_b rfl) ?_
    refine GoT.q rfl (QEx.assign rfl (.tmp rfl)) rfl (lt_b rfl) ?_
    refine GoT.nil ?_
    refine Wp.ret ?_
    cases h
    exact LeafQ.ret [] (by decide) (.cons (.tmp rfl) .nil) rfl
  · refine Wp.skip ?_
    refine bind_e h fun r3 hr3 h => ?_
    refine Wp.seq ?_
    refine Wp.region ?_
    refine GoT.q rfl (QEx.move rfl (.tmp rfl)) rfl (lt_b rfl) ?_
    refine GoT.q rfl (QEx.move rfl (.tmp rfl)) rfl (lt_b rfl) ?_
    refine GoT.q rfl (QEx.cal0 (r := (.tup [(iAV r3.1), (iAV r3.2.1), (iAV r3.2.2)])) [((slAV 1 byteAV) b), (iAV at_1)] rfl Try.call16 (.cons (.tmp rfl) (.cons (.tmp rfl) .nil)) (codec_ReadInt_ok hr3) rfl rfl) rfl (lt_b rfl) ?_
    refine GoT.q rfl (QEx.move rfl (.tmp rfl)) rfl (lt_b rfl) ?_
    refine GoT.q rfl (QEx.extract rfl (.tmp rfl) rfl) rfl (lt_b rfl) ?_
    refine GoT.q rfl (QEx.extract rfl (.tmp rfl) rfl) rfl (lt_b rfl) ?_
    refine GoT.q rfl (QEx.extract rfl (.tmp rfl) rfl) rfl (lt_b rfl) ?_
    refine GoT.q rfl (QEx.assign rfl (.tmp rfl)) rfl (lt_b rfl) ?_
    refine GoT.q rfl (QEx.assign rfl (.tmp rfl)) rfl (lt_b rfl) ?_
    refine GoT.q rfl (QEx.assign rfl (.tmp rfl)) rfl (lt_b rfl) ?_
    refine GoT.nil ?_
    refine bind_e h fun r4 hr4 h => ?_
    refine Wp.seq ?_
    refine Wp.region ?_
    refine GoT.q rfl (QEx.move rfl (.tmp rfl)) rfl (lt_b rfl) ?_
    refine GoT.q rfl (QEx.move rfl (.tmp rfl)) rfl (lt_b rfl) ?_
    refine GoT.q rfl (QEx.cal0 (r := (.tup [(iAV r4.1), (iAV r4.2.1), (iAV r4.2.2)])) [((slAV 1 byteAV) b), (iAV at_1)] rfl Try.call17 (.cons (.tmp rfl) (.cons (.tmp rfl) .nil)) (ref07_ReadInt_ok hr4) rfl rfl) rfl (lt_b rfl) ?_
    refine GoT.q rfl (QEx.move rfl (.tmp rfl)) rfl (lt_b rfl) ?_
    refine GoT.q rfl (QEx.extract rfl (.tmp rfl) rfl) rfl (lt_b rfl) ?_
    refine GoT.q rfl (QEx.extract rfl (.tmp rfl) rfl) rfl (lt_b rfl) ?_
    refine GoT.q rfl (QEx.extract rfl (.tmp rfl) rfl) rfl (lt_b rfl) ?_
    refine GoT.q rfl (QEx.assign rfl (.tmp rfl)) rfl (lt_b rfl) ?_
    refine GoT.q rfl (QEx.assign rfl (.tmp rfl)) rfl (lt_b rfl) ?_
    refine GoT.q rfl (QEx.assign rfl (.tmp rfl)) rfl (lt_b rfl) ?_
    refine GoT.nil ?_
    refine Wp.seq ?_
    refine Wp.seq ?_
    refine Wp.region ?_
    refine GoT.q rfl (QEx.move rfl (.tmp rfl)) rfl (lt_b rfl) ?_
    refine GoT.q rfl (QEx.move rfl (.tmp rfl)) rfl (lt_b rfl) ?_
    refine GoT.q rfl (QEx.neqK rfl (.tmp rfl) (.tmp rfl)) rfl (lt_b rfl) ?_
    refine GoT.q rfl (QEx.move rfl (.tmp rfl)) rfl (lt_b rfl) ?_
    refine GoT.g rfl rfl rfl (fun hg => QEx.move rfl (.tmp rfl)) rfl (lt_b rfl) ?_
    refine GoT.g rfl rfl rfl (fun hg => QEx.move rfl (.tmp rfl)) rfl (lt_b rfl) ?_
    refine GoT.g rfl rfl rfl (fun hg => QEx.neqK rfl (.opt (.tmp rfl) hg) (.opt (.tmp rfl) hg)) rfl (lt_b rfl) ?_
    refine GoT.q rfl (QEx.pickK rfl (.tmp rfl) (fun hp => .con) (fun hp => (.opt (.tmp rfl) (beq_f hp)))) rfl (lt_b rfl) ?_
    refine GoT.q rfl (QEx.move rfl (.tmp rfl)) rfl (lt_b rfl) ?_
    refine GoT.g rfl rfl rfl (fun hg => QEx.move rfl (.tmp rfl)) rfl (lt_b rfl) ?_
    refine GoT.g rfl rfl rfl (fun hg => QEx.move rfl (.tmp rfl)) rfl (lt_b rfl) ?_
    refine GoT.g rfl rfl rfl (fun hg => QEx.neqK rfl (.opt (.tmp rfl) hg) (.opt (.tmp rfl) hg)) rfl (lt_b rfl) ?_
    refine GoT.q rfl (QEx.pickK rfl (.tmp rfl) (fun hp => .con) (fun hp => (.opt (.tmp rfl) (beq_f hp)))) rfl (lt_b rfl) ?_
    refine GoT.nil ?_
    refine Wp.condS h rfl (fun h => ?_) (fun h => ?_)
    · refine Wp.seq ?_
      refine Wp.region ?_
      refine GoT.q rfl (QEx.as (boolAV false) (QEx.assign rfl .con)) rfl (lt_b rfl) ?_
      refine GoT.nil ?_
      refine Wp.ret ?_
      cases h
      exact LeafQ.ret [] (by decide) (.cons (.tmp rfl) .nil) rfl
    · refine Wp.skip ?_
      refine bind_e h fun r5 hr5 h => ?_
      refine Wp.seq ?_
      refine Wp.region ?_
      refine GoT.q rfl (QEx.move rfl (.tmp rfl)) rfl (lt_b rfl) ?_
      refine GoT.q rfl (QEx.move rfl (.tmp rfl)) rfl (lt_b rfl) ?_
      refine GoT.q rfl (QEx.cal0 (r := (.tup [(boolAV r5.1), (iAV r5.2.1), (iAV r5.2.2)])) [((slAV 1 byteAV) b), (iAV at_1)] rfl Try.call18 (.cons (.tmp rfl) (.cons (.tmp rfl) .nil)) (codec_ReadBool_ok hr5) rfl rfl) rfl (lt_b rfl) ?_
      refine GoT.q rfl (QEx.move rfl (.tmp rfl)) rfl (lt_b rfl) ?_
      refine GoT.q rfl (QEx.extract rfl (.tmp rfl) rfl) rfl (lt_b rfl) ?_
      refine GoT.q rfl (QEx.extract rfl (.tmp rfl) rfl) rfl (lt_b rfl) ?_
      refine GoT.q rfl (QEx.extract rfl (.tmp rfl) rfl) rfl (lt_b rfl) ?_
      refine GoT.q rfl (QEx.assign rfl (.tmp rfl)) rfl (lt_b rfl) ?_
      refine GoT.q rfl (QEx.assign rfl (.tmp rfl)) rfl (lt_b rfl) ?_
      refine GoT.q rfl (QEx.assign rfl (.tmp rfl)) rfl (lt_b rfl) ?_
      refine GoT.nil ?_
      refine bind_e h fun r6 hr6 h => ?_
      refine Wp.seq ?_
      refine Wp.region ?_
      refine GoT.q rfl (QEx.move rfl (.tmp rfl)) rfl (lt_b rfl) ?_
      refine GoT.q rfl (QEx.move rfl (.tmp rfl)) rfl (lt_b rfl) ?_
      refine GoT.q rfl (QEx.cal0 (r := (.tup [(boolAV r6.1), (iAV r6.2.1), (iAV r6.2.2)])) [((slAV 1 byteAV) b), (iAV at_1)] rfl Try.call19 (.cons (.tmp rfl) (.cons (.tmp rfl) .nil)) (ref07_ReadBool_ok hr6) rfl rfl) rfl (lt_b rfl) ?_
      refine GoT.q rfl (QEx.move rfl (.tmp rfl)) rfl (lt_b rfl) ?_
      refine GoT.q rfl (QEx.extract rfl (.tmp rfl) rfl) rfl (lt_b rfl) ?_
      refine GoT.q rfl (QEx.extract rfl (.tmp rfl) rfl) rfl (lt_b rfl) ?_
      refine GoT.q rfl (QEx.extract rfl (.tmp rfl) rfl) rfl (lt_b rfl) ?_
      refine GoT.q rfl (QEx.assign rfl (.tmp rfl)) rfl (lt_b rfl) ?_
      refine GoT.q rfl (QEx.assign rfl (.tmp rfl)) rfl (lt_b rfl) ?_
      refine GoT.q rfl (QEx.assign rfl (.tmp rfl)) rfl (lt_b rfl) ?_
      refine GoT.nil ?_
      refine Wp.seq ?_
      refine Wp.seq ?_
      refine Wp.region ?_
      refine GoT.q rfl (QEx.move rfl (.tmp rfl)) rfl (lt_b rfl) ?_
      refine GoT.q rfl (QEx.move rfl (.tmp rfl)) rfl (lt_b rfl) ?_
      refine GoT.q rfl (QEx.neqB rfl (.tmp rfl) (.tmp rfl) Try.underlying4) rfl (lt_b rfl) ?_
      refine GoT.q rfl (QEx.move rfl (.tmp rfl)) rfl (lt_b rfl) ?_
      refine GoT.g rfl rfl rfl (fun hg => QEx.move rfl (.tmp rfl)) rfl (lt_b rfl) ?_
      refine GoT.g rfl rfl rfl (fun hg => QEx.move rfl (.tmp rfl)) rfl (lt_b rfl) ?_
      refine GoT.g rfl rfl rfl (fun hg => QEx.neqK rfl (.opt (.tmp rfl) hg) (.opt (.tmp rfl) hg)) rfl (lt_b rfl) ?_
      refine GoT.q rfl (QEx.pickK rfl (.tmp rfl) (fun hp => .con) (fun hp => (.opt (.tmp rfl) (beq_f hp)))) rfl (lt_b rfl) ?_
      refine GoT.q rfl (QEx.move rfl (.tmp rfl)) rfl (lt_b rfl) ?_
      refine GoT.g rfl rfl rfl (fun hg => QEx.move rfl (.tmp rfl)) rfl (lt_b rfl) ?_
      refine GoT.g rfl rfl rfl (fun hg => QEx.move rfl (.tmp rfl)) rfl (lt_b rfl) ?_
      refine GoT.g rfl rfl rfl (fun hg => QEx.neqK rfl (.opt (.tmp rfl) hg) (.opt (.tmp rfl) hg)) rfl (lt_b rfl) ?_
      refine GoT.q rfl (QEx.pickK rfl (.tmp rfl) (fun hp => .con) (fun hp => (.opt (.tmp rfl) (beq_f hp)))) rfl (lt_b rfl) ?_
      refine GoT.nil ?_
      refine Wp.condS h rfl (fun h => ?_) (fun h => ?_)
      · refine Wp.seq ?_
        refine Wp.region ?_
        refine GoT.q rfl (QEx.as (boolAV false) (QEx.assign rfl .con)) rfl (lt_b rfl) ?_
        refine GoT.nil ?_
        refine Wp.ret ?_
        cases h
        exact LeafQ.ret [] (by decide) (.cons (.tmp rfl) .nil) rfl
      · refine Wp.skip ?_
        refine bind_e h fun r7 hr7 h => ?_
        refine let_e h fun x8 hx8 h => ?_
        refine Wp.seq ?_
        refine Wp.region ?_
        refine GoT.q rfl (QEx.move rfl (.tmp rfl)) rfl (lt_b rfl) ?_
        refine GoT.q rfl (QEx.move rfl (.tmp rfl)) rfl (lt_b rfl) ?_
        refine GoT.q rfl (QEx.cal0 (r := (.tup [(Vec.av r7.1), (iAV r7.2.1), (iAV r7.2.2)])) [((slAV 1 byteAV) b), (iAV at_1)] rfl Try.call20 (.cons (.tmp rfl) (.cons (.tmp rfl) .nil)) (codec_ReadVec_ok hr7) rfl rfl) rfl (lt_b rfl) ?_
        refine GoT.q rfl (QEx.move rfl (.tmp rfl)) rfl (lt_b rfl) ?_
        refine GoT.q rfl (QEx.extract rfl (.tmp rfl) rfl) rfl (lt_b rfl) ?_
        refine GoT.q rfl (QEx.extract rfl (.tmp rfl) rfl) rfl (lt_b rfl) ?_
        refine GoT.q rfl (QEx.extract rfl (.tmp rfl) rfl) rfl (lt_b rfl) ?_
        refine GoT.a rfl (AEx.alZ rfl zt32 rfl rfl) rfl (lt_b rfl) ?_
        refine GoT.s rfl (AEx.sto (Z := (Vec.cells x8)) rfl rfl ts32 (.tmp rfl) rfl (.tmp rfl) rfl rfl (le_b rfl) (congrArg (fun x => (Vec.cells x)) hx8)) rfl ?_
        refine GoT.q rfl (QEx.assign rfl (.tmp rfl)) rfl (lt_b rfl) ?_
        refine GoT.q rfl (QEx.assign rfl (.tmp rfl)) rfl (lt_b rfl) ?_
        refine GoT.nil ?_
        refine bind_e h fun r9 hr9 h => ?_
        refine let_e h fun x10 hx10 h => ?_
        refine Wp.seq ?_
        refine Wp.region ?_
        refine GoT.q rfl (QEx.move rfl (.tmp rfl)) rfl (lt_b rfl) ?_
        refine GoT.q rfl (QEx.move rfl (.tmp rfl)) rfl (lt_b rfl) ?_
        refine GoT.q rfl (QEx.cal0 (r := (.tup [(Vec.av r9.1), (iAV r9.2.1), (iAV r9.2.2)])) [((slAV 1 byteAV) b), (iAV at_1)] rfl Try.call21 (.cons (.tmp rfl) (.cons (.tmp rfl) .nil)) (ref07_ReadVec_ok hr9) rfl rfl) rfl (lt_b rfl) ?_
        refine GoT.q rfl (QEx.move rfl (.tmp rfl)) rfl (lt_b rfl) ?_
        refine GoT.q rfl (QEx.extract rfl (.tmp rfl) rfl) rfl (lt_b rfl) ?_
        refine GoT.q rfl (QEx.extract rfl (.tmp rfl) rfl) rfl (lt_b rfl) ?_
        refine GoT.q rfl (QEx.extract rfl (.tmp rfl) rfl) rfl (lt_b rfl) ?_
        refine GoT.a rfl (AEx.alZ rfl zt32 rfl rfl) rfl (lt_b rfl) ?_
        refine GoT.s rfl (AEx.sto (Z := (Vec.cells x10)) rfl rfl ts32 (.tmp rfl) rfl (.tmp rfl) rfl rfl (le_b rfl) (congrArg (fun x => (Vec.cells x)) hx10)) rfl ?_
        refine GoT.q rfl (QEx.assign rfl (.tmp rfl)) rfl (lt_b rfl) ?_
        refine GoT.q rfl (QEx.assign rfl (.tmp rfl)) rfl (lt_b rfl) ?_
        refine GoT.nil ?_
        refine bind_e h fun r11 hr11 h => ?_
        refine let_e h fun x12 hx12 h => ?_
        refine Wp.seq ?_
        refine Wp.region ?_
        refine GoT.qr rfl rfl (QEx.ldP (Vec.cells x8) (Vec.av x8) rfl ag32 ts32 (.tmp rfl) (le_b rfl) rfl) rfl (lt_b rfl) ?_
        refine GoT.qr rfl rfl (QEx.ldP (Vec.cells x10) (Vec.av x10) rfl ag32 ts32 (.tmp rfl) (le_b rfl) rfl) rfl (lt_b rfl) ?_
        refine GoT.q rfl (QEx.eqlA rfl eq32 (.tmp rfl) (.tmp rfl)) rfl (lt_b rfl) ?_
        refine GoT.q rfl (QEx.move rfl (.tmp rfl)) rfl (lt_b rfl) ?_
        refine GoT.g rfl rfl rfl (fun hg => QEx.move rfl (.tmp rfl)) rfl (lt_b rfl) ?_
        refine GoT.g rfl rfl rfl (fun hg => QEx.move rfl (.tmp rfl)) rfl (lt_b rfl) ?_
        refine GoT.g rfl rfl rfl (fun hg => QEx.eqlK rfl (.opt (.tmp rfl) hg) (.opt (.tmp rfl) hg)) rfl (lt_b rfl) ?_
        refine GoT.q rfl (QEx.pickK rfl (.tmp rfl) (fun hp => (.opt (.tmp rfl) (beq_t hp))) (fun hp => .con)) rfl (lt_b rfl) ?_
        refine GoT.q rfl (QEx.move rfl (.tmp rfl)) rfl (lt_b rfl) ?_
        refine GoT.g rfl rfl rfl (fun hg => QEx.move rfl (.tmp rfl)) rfl (lt_b rfl) ?_
        refine GoT.g rfl rfl rfl (fun hg => QEx.move rfl (.tmp rfl)) rfl (lt_b rfl) ?_
        refine GoT.g rfl rfl rfl (fun hg => QEx.eqlK rfl (.opt (.tmp rfl) hg) (.opt (.tmp rfl) hg)) rfl (lt_b rfl) ?_
        refine GoT.q rfl (QEx.pickK rfl (.tmp rfl) (fun hp => (.opt (.tmp rfl) (beq_t hp))) (fun hp => .con)) rfl (lt_b rfl) ?_
        refine GoT.q rfl (QEx.move rfl (.tmp rfl)) rfl (lt_b rfl) ?_
        refine GoT.g rfl rfl rfl (fun hg => QEx.cal0 (r := (boolAV r11)) [] rfl Try.call10 .nil (law07_example_ok (gcall hr11 hg)) rfl rfl) rfl (lt_b rfl) ?_
        refine GoT.q rfl (QEx.pickK rfl (.tmp rfl) (fun hp => (.opt (.tmp rfl) (beq_t hp))) (fun hp => .con)) rfl (lt_b rfl) ?_
        refine GoT.q rfl (QEx.eq (QEx.assign rfl (.tmp rfl)) (congrArg boolAV hx12)) rfl (lt_b rfl) ?_
        refine GoT.nil ?_
        refine Wp.ret ?_
        cases h
        exact LeafQ.ret [] (by decide) (.cons (.tmp rfl) .nil) rfl
theorem codec_AppendBool_ok {b : List UInt8} {x_1 : Bool} {r : List UInt8} (h : codec_AppendBool b x_1 = some r) : FnR Try.prog 13 [((slAV 1 byteAV) b), (boolAV x_1)] (slT 0 0 1 byteAV r) := by
  refine FnR.intro' (fn := Try.f13) (N := 12) Try.func13 rfl rfl (Nat.le_of_ble_eq_true rfl) [4, 6, 7, 8, 9, 10, 11] ?_
  refine Wp.seq ?_
  refine Wp.region ?_
  refine GoT.q rfl (QEx.as (slT 4 0 1 byteAV ([] : List UInt8)) (QEx.assign rfl (.nil))) rfl (lt_b rfl) ?_
  refine GoT.nil ?_
  refine Wp.seq ?_
  refine Wp.seq ?_
  refine Wp.region ?_
  refine GoT.q rfl (QEx.move rfl (.tmp rfl)) rfl (lt_b rfl) ?_
  refine GoT.nil ?_
  refine Wp.condS h rfl (fun h => ?_) (fun h => ?_)
  · refine bind_e h fun r1 hr1 h => ?_
    refine Wp.seq ?_
    refine Wp.region ?_
    refine GoT.q rfl (QEx.move rfl (.tmp rfl)) rfl (lt_b rfl) ?_
    refine GoT.q rfl (QEx.as (slT 7 0 1 byteAV ([1] : List UInt8)) (QEx.buildSlice rfl et22 (.cons (.cb 1 rfl) rfl rfl rfl .nil) rfl (by decide))) rfl (lt_b rfl) ?_
    refine GoT.c rfl (QEx.cal (r' := (slT 8 0 1 byteAV r1)) [((slAV 1 byteAV) b), ((slAV 1 byteAV) ([1] : List UInt8))] rfl Try.call30 (.cons (.tmp rfl) (.cons (.tmp rfl) .nil)) (codec_extend_ok hr1) rfl rfl rfl) rfl rfl (lt_b rfl) ?_
    refine GoT.q rfl (QEx.assign rfl (.tmp rfl)) rfl (lt_b rfl) ?_
    refine GoT.nil ?_
    refine Wp.ret ?_
    cases h
    exact LeafQ.ret [(8, 0)] (by decide) (.cons (.tmp rfl) .nil) rfl
  · refine Wp.skip ?_
    refine bind_e h fun r2 hr2 h => ?_
    refine Wp.seq ?_
    refine Wp.region ?_
    refine GoT.q rfl (QEx.move rfl (.tmp rfl)) rfl (lt_b rfl) ?_
    refine GoT.q rfl (QEx.as (slT 10 0 1 byteAV ([0] : List UInt8)) (QEx.buildSlice rfl et22 (.cons (.cb 0 rfl) rfl rfl rfl .nil) rfl (by decide))) rfl (lt_b rfl) ?_
    refine GoT.c rfl (QEx.cal (r' := (slT 11 0 1 byteAV r2)) [((slAV 1 byteAV) b), ((slAV 1 byteAV) ([0] : List UInt8))] rfl Try.call30 (.cons (.tmp rfl) (.cons (.tmp rfl) .nil)) (codec_extend_ok hr2) rfl rfl rfl) rfl rfl (lt_b rfl) ?_
    refine GoT.q rfl (QEx.assign rfl (.tmp rfl)) rfl (lt_b rfl) ?_
    refine GoT.nil ?_
    refine Wp.ret ?_
    cases h
    exact LeafQ.ret [(11, 0)] (by decide) (.cons (.tmp rfl) .nil) rfl
theorem codec_AppendInts_ok {b : List UInt8} {values : List Int} {r : List UInt8} (h : codec_AppendInts b values = some r) : FnR Try.prog 14 [((slAV 1 byteAV) b), ((slAV 1 iAV) values)] (slT 0 0 1 byteAV r) := by
  refine FnR.intro' (fn := Try.f14) (N := 22) Try.func14 rfl rfl (Nat.le_of_ble_eq_true rfl) [0, 4, 7, 8, 10, 11, 17, 19, 21] ?_
  refine Wp.seq ?_
  refine Wp.region ?_
  refine GoT.q rfl (QEx.as (slT 4 0 1 byteAV ([] : List UInt8)) (QEx.assign rfl (.nil))) rfl (lt_b rfl) ?_
  refine GoT.nil ?_
  refine bind_e h fun r1 hr1 h => ?_
  refine Wp.seq ?_
  refine Wp.region ?_
  refine GoT.q rfl (QEx.move rfl (.tmp rfl)) rfl (lt_b rfl) ?_
  refine GoT.q rfl (QEx.move rfl (.tmp rfl)) rfl (lt_b rfl) ?_
  refine GoT.q rfl (QEx.lenL rfl ⟨_, Try.underlying53⟩ (.tmp rfl)) rfl (lt_b rfl) ?_
  refine GoT.c rfl (QEx.cal (r' := (slT 10 0 1 byteAV r1)) [((slAV 1 byteAV) b), (iAV ((values).length : Int))] rfl Try.call11 (.cons (.tmp rfl) (.cons (.tmp rfl) .nil)) (codec_AppendInt_ok hr1) rfl rfl rfl) rfl rfl (lt_b rfl) ?_
  refine GoT.q rfl (QEx.assign rfl (.tmp rfl)) rfl (lt_b rfl) ?_
  refine GoT.nil ?_
  refine Wp.join1 (fun v2 => ⟨[(0, (slT 0 0 1 byteAV v2))], [], [4, 7, 8, 10, 11, 17, 19, 21]⟩) (fun v2 => codec_AppendInts_j2 v2 = some r) ?_ ?_
  · intro v2 h
    refine Wp.seq ?_
    refine Wp.region ?_
    refine GoT.q rfl (QEx.move rfl (.tmp rfl)) rfl (lt_b rfl) ?_
    refine GoT.q rfl (QEx.assign rfl (.tmp rfl)) rfl (lt_b rfl) ?_
    refine GoT.nil ?_
    refine Wp.ret ?_
    cases h
    exact LeafQ.ret [(0, 0)] (by decide) (.cons (.tmp rfl) .nil) rfl
  · refine Wp.seq ?_
    refine Wp.region ?_
    refine GoT.q rfl (QEx.move rfl (.tmp rfl)) rfl (lt_b rfl) ?_
    refine GoT.q rfl (QEx.lenL rfl ⟨_, Try.underlying53⟩ (.tmp rfl)) rfl (lt_b rfl) ?_
    refine GoT.q rfl (QEx.as (iAV 0) (QEx.move rfl .con)) rfl (lt_b rfl) ?_
    refine GoT.nil ?_
    refine Wp.block ?_
    refine Wp.loop2 (fun v3 v4 => ⟨[(0, (slT 0 0 1 byteAV v3)), (11, ((slAV 1 iAV) values)), (12, (iAV ((values).length : Int))), (13, (iAV v4))], [], [4, 7, 8, 10, 11, 17, 19, 21]⟩) (fun n v3 v4 => codec_AppendInts_l1 values codec_AppendInts_j2 n v3 v4 = some r) fuel r1 0 [] [(10, 0)] h (LS.to.mk (.r rfl rfl (.b rfl rfl (.b rfl rfl (.b rfl rfl .n)))) .n rfl) ?_
    rintro (_ | n2) v3 v4 h
    · exact none_e h
    rw [codec_AppendInts_l1] at h
    refine Wp.seq ?_
    refine Wp.region ?_
    refine GoT.q rfl (QEx.lssK rfl (.tmp rfl) (.tmp rfl)) rfl (lt_b rfl) ?_
    refine GoT.nil ?_
    refine Wp.seq ?_
    refine Wp.condS h rfl (fun h => ?_) (fun h => ?_)
    · refine Wp.skip ?_
      refine Wp.seq ?_
      refine Wp.block ?_
      refine chk_e h fun c5 h => ?_
      refine let_e h fun x6 hx6 h => ?_
      refine Wp.seq ?_
      refine Wp.region ?_
      refine GoT.q rfl (QEx.as (.cptr [(iAV (ix values v4))]) (QEx.idxL (E := iAV) rfl et53 (.tmp rfl) (.tmp rfl) c5)) rfl (lt_b rfl) ?_
      refine GoT.q rfl (QEx.ldC (x := (iAV (ix values v4))) rfl ag3 ts3 (.tmp rfl) (.inr ⟨rfl, rfl⟩)) rfl (lt_b rfl) ?_
      refine GoT.q rfl (QEx.eq (QEx.assign rfl (.tmp rfl)) (congrArg iAV hx6)) rfl (lt_b rfl) ?_
      refine GoT.nil ?_
      refine bind_e h fun r7 hr7 h => ?_
      refine Wp.region ?_
      refine GoT.q rfl (QEx.move rfl (.tmp rfl)) rfl (lt_b rfl) ?_
      refine GoT.q rfl (QEx.move rfl (.tmp rfl)) rfl (lt_b rfl) ?_
      refine GoT.c rfl (QEx.cal (r' := (slT 19 0 1 byteAV r7)) [((slAV 1 byteAV) v3), (iAV x6)] rfl Try.call11 (.cons (.tmp rfl) (.cons (.tmp rfl) .nil)) (codec_AppendInt_ok hr7) rfl rfl rfl) rfl rfl (lt_b rfl) ?_
      refine GoT.q rfl (QEx.assign rfl (.tmp rfl)) rfl (lt_b rfl) ?_
      refine GoT.nil ?_
      refine let_e h fun x8 hx8 h => ?_
      refine Wp.region ?_
      refine GoT.q rfl (QEx.addK rfl (.tmp rfl) .con) rfl (lt_b rfl) ?_
      refine GoT.q rfl (QEx.eq (QEx.move rfl (.tmp rfl)) (congrArg iAV hx8)) rfl (lt_b rfl) ?_
      refine GoT.nil ?_
      exact Round2.mk r7 x8 [0] [(19, 0)] h (LS.to.mk (.r rfl rfl (.b rfl rfl (.b rfl rfl (.b rfl rfl .n)))) .n rfl)
    · refine Wp.exit ?_
      exact Joined1.mk v3 [] [] h (LS.to.mk (.r rfl rfl .n) .n rfl)
theorem codec_AppendVec_ok {b : List UInt8} {v_1 : Vec} {r : List UInt8} (h : codec_AppendVec b v_1 = some r) : FnR Try.prog 15 [((slAV 1 byteAV) b), (Vec.av v_1)] (slT 0 0 1 byteAV r) := by
  refine FnR.intro' (fn := Try.f15) (N := 12) Try.func15 rfl rfl (Nat.le_of_ble_eq_true rfl) [3, 4, 5, 8, 11] ?_
  refine Wp.seq ?_
  refine Wp.region ?_
  refine GoT.a rfl (AEx.bx (Z := (Vec.cells v_1)) rfl (.tmp rfl) rfl rfl rfl rfl) rfl (lt_b rfl) ?_
  refine GoT.q rfl (QEx.as (slT 4 0 1 byteAV ([] : List UInt8)) (QEx.assign rfl (.nil))) rfl (lt_b rfl) ?_
  refine GoT.nil ?_
  refine bind_e h fun r1 hr1 h => ?_
  refine bind_e h fun r2 hr2 h => ?_
  refine Wp.seq ?_
  refine Wp.drawn2 (n0 := 8) [4, 5] mixed ?_
  refine GoD.q rfl (QEx.move rfl (.tmp rfl)) rfl (lt_b rfl) ?_
  refine GoD.q rfl (QEx.fldP 0 rfl Try.underlying32 rfl ts3 rfl (.tmp rfl) rfl) rfl (lt_b rfl) ?_
  refine GoD.qr rfl rfl (QEx.ldP1 (Vec.cells v_1) (iAV v_1.X) rfl ag3 (.tmp rfl) rfl) rfl (lt_b rfl) ?_
  refine GoD.c rfl (QEx.cal (r' := (slT 8 0 1 byteAV r1)) [((slAV 1 byteAV) b), (iAV v_1.X)] rfl Try.call11 (.cons (.tmp rfl) (.cons (.tmp rfl) .nil)) (codec_AppendInt_ok hr1) rfl rfl rfl) rfl (lt_b rfl) ?_
  refine GoD.q rfl (QEx.fldP 1 rfl Try.underlying32 rfl ts3 rfl (.tmp rfl) rfl) rfl (lt_b rfl) ?_
  refine GoD.qr rfl rfl (QEx.ldP1 (Vec.cells v_1) (iAV v_1.Y) rfl ag3 (.tmp rfl) rfl) rfl (lt_b rfl) ?_
  refine GoD.c rfl (QEx.cal (r' := (slT 11 0 1 byteAV r2)) [((slAV 1 byteAV) r1), (iAV v_1.Y)] rfl Try.call11 (.cons (.tmp rfl) (.cons (.tmp rfl) .nil)) (codec_AppendInt_ok hr2) rfl rfl rfl) rfl (lt_b rfl) ?_
  refine GoD.q rfl (QEx.assign rfl (.tmp rfl)) rfl (lt_b rfl) ?_
  refine GoD.nil ⟨by kernel_rfl, by kernel_rfl, by kernel_rfl, by kernel_rfl, by kernel_rfl, ?_⟩
  refine GoT.nil ?_
  refine Wp.ret ?_
  cases h
  exact LeafQ.ret [(11, 0)] (by decide) (.cons (.tmp rfl) .nil) rfl
theorem codec_readLength_ok {b : List UInt8} {at_1 : Int} {limit : Int} {r : Int × Int × Int} (h : codec_readLength b at_1 limit = some r) : FnR Try.prog 32 [((slAV 1 byteAV) b), (iAV at_1), (iAV limit)] (.tup [(iAV r.1), (iAV r.2.1), (iAV r.2.2)]) := by
  refine FnR.intro' (fn := Try.f32) (N := 32) Try.func32 rfl rfl (Nat.le_of_ble_eq_true rfl) [12] ?_
  refine Wp.seq ?_
  refine Wp.region ?_
  refine GoT.q rfl (QEx.as (iAV 0) (QEx.assign rfl .con)) rfl (lt_b rfl) ?_
  refine GoT.q rfl (QEx.as (iAV 0) (QEx.assign rfl .con)) rfl (lt_b rfl) ?_
  refine GoT.q rfl (QEx.as (iAV 0) (QEx.assign rfl .con)) rfl (lt_b rfl) ?_
  refine GoT.nil ?_
  refine bind_e h fun r1 hr1 h => ?_
  refine Wp.seq ?_
  refine Wp.region ?_
  refine GoT.q rfl (QEx.move rfl (.tmp rfl)) rfl (lt_b rfl) ?_
  refine GoT.q rfl (QEx.move rfl (.tmp rfl)) rfl (lt_b rfl) ?_
  refine GoT.q rfl (QEx.cal0 (r := (.tup [(iAV r1.1), (iAV r1.2.1), (iAV r1.2.2)])) [((slAV 1 byteAV) b), (iAV at_1)] rfl Try.call16 (.cons (.tmp rfl) (.cons (.tmp rfl) .nil)) (codec_ReadInt_ok hr1) rfl rfl) rfl (lt_b rfl) ?_
  refine GoT.q rfl (QEx.move rfl (.tmp rfl)) rfl (lt_b rfl) ?_
  refine GoT.q rfl (QEx.extract rfl (.tmp rfl) rfl) rfl (lt_b rfl) ?_
  refine GoT.q rfl (QEx.extract rfl (.tmp rfl) rfl) rfl (lt_b rfl) ?_
  refine GoT.q rfl (QEx.extract rfl (.tmp rfl) rfl) rfl (lt_b rfl) ?_
  refine GoT.q rfl (QEx.assign rfl (.tmp rfl)) rfl (lt_b rfl) ?_
  refine GoT.q rfl (QEx.assign rfl (.tmp rfl)) rfl (lt_b rfl) ?_
  refine GoT.q rfl (QEx.assign rfl (.tmp rfl)) rfl (lt_b rfl) ?_
  refine GoT.nil ?_
  refine Wp.seq ?_
  refine Wp.block ?_
  refine let_e h fun x2 hx2 h => ?_
  refine Wp.seq ?_
  refine Wp.region ?_
  refine GoT.q rfl (QEx.move rfl (.tmp rfl)) rfl (lt_b rfl) ?_
  refine GoT.q rfl (QEx.neqK rfl (.tmp rfl) .con) rfl (lt_b rfl) ?_
  refine GoT.q rfl (QEx.eq (QEx.assign rfl (.tmp rfl)) (congrArg boolAV hx2)) rfl (lt_b rfl) ?_
  refine GoT.nil ?_
  refine Wp.condS h rfl (fun h => ?_) (fun h => ?_)
  · refine Wp.seq ?_
    refine Wp.region ?_
    refine GoT.q rfl (QEx.move rfl (.tmp rfl)) rfl (lt_b rfl) ?_
    refine GoT.q rfl (QEx.as (iAV 0) (QEx.assign rfl .con)) rfl (lt_b rfl) ?_
    refine GoT.q rfl (QEx.as (iAV 0) (QEx.assign rfl .con)) rfl (lt_b rfl) ?_
    refine GoT.q rfl (QEx.assign rfl (.tmp rfl)) rfl (lt_b rfl) ?_
    refine GoT.nil ?_
    refine Wp.ret ?_
    cases h
    exact LeafQ.ret [] (by decide) (.cons (.tmp rfl) (.cons (.tmp rfl) (.cons (.tmp rfl) .nil))) rfl
  · refine let_e h fun x3 hx3 h => ?_
    refine Wp.seq ?_
    refine Wp.region ?_
    refine GoT.q rfl (QEx.move rfl (.tmp rfl)) rfl (lt_b rfl) ?_
    refine GoT.q rfl (QEx.lssK rfl (.tmp rfl) .con) rfl (lt_b rfl) ?_
    refine GoT.q rfl (QEx.eq (QEx.assign rfl (.tmp rfl)) (congrArg boolAV hx3)) rfl (lt_b rfl) ?_
    refine GoT.nil ?_
    refine Wp.condS h rfl (fun h => ?_) (fun h => ?_)
    · refine Wp.seq ?_
      refine Wp.region ?_
      refine GoT.q rfl (QEx.as (iAV 0) (QEx.assign rfl .con)) rfl (lt_b rfl) ?_
      refine GoT.q rfl (QEx.as (iAV 0) (QEx.assign rfl .con)) rfl (lt_b rfl) ?_
      refine GoT.q rfl (QEx.as (iAV 3) (QEx.assign rfl .con)) rfl (lt_b rfl) ?_
      refine GoT.nil ?_
      refine Wp.ret ?_
      cases h
      exact LeafQ.ret [] (by decide) (.cons (.tmp rfl) (.cons (.tmp rfl) (.cons (.tmp rfl) .nil))) rfl
    · refine let_e h fun x4 hx4 h => ?_
      refine Wp.seq ?_
      refine Wp.region ?_
      refine GoT.q rfl (QEx.move rfl (.tmp rfl)) rfl (lt_b rfl) ?_
      refine GoT.q rfl (QEx.move rfl (.tmp rfl)) rfl (lt_b rfl) ?_
      refine GoT.q rfl (QEx.maxK rfl (.tmp rfl) .con) rfl (lt_b rfl) ?_
      refine GoT.q rfl (QEx.gtrK rfl (.tmp rfl) (.tmp rfl)) rfl (lt_b rfl) ?_
      refine GoT.q rfl (QEx.eq (QEx.assign rfl (.tmp rfl)) (congrArg boolAV hx4)) rfl (lt_b rfl) ?_
      refine GoT.nil ?_
      refine Wp.condS h rfl (fun h => ?_) (fun h => ?_)
      · refine Wp.seq ?_
        refine Wp.region ?_
        refine GoT.q rfl (QEx.as (iAV 0) (QEx.assign rfl .con)) rfl (lt_b rfl) ?_
        refine GoT.q rfl (QEx.as (iAV 0) (QEx.assign rfl .con)) rfl (lt_b rfl) ?_
        refine GoT.q rfl (QEx.as (iAV 5) (QEx.assign rfl .con)) rfl (lt_b rfl) ?_
        refine GoT.nil ?_
        refine Wp.ret ?_
        cases h
        exact LeafQ.ret [] (by decide) (.cons (.tmp rfl) (.cons (.tmp rfl) (.cons (.tmp rfl) .nil))) rfl
      · refine Wp.skip ?_
        refine Wp.seq ?_
        refine Wp.region ?_
        refine GoT.q rfl (QEx.move rfl (.tmp rfl)) rfl (lt_b rfl) ?_
        refine GoT.q rfl (QEx.move rfl (.tmp rfl)) rfl (lt_b rfl) ?_
        refine GoT.q rfl (QEx.assign rfl (.tmp rfl)) rfl (lt_b rfl) ?_
        refine GoT.q rfl (QEx.assign rfl (.tmp rfl)) rfl (lt_b rfl) ?_
        refine GoT.q rfl (QEx.as (iAV 0) (QEx.assign rfl .con)) rfl (lt_b rfl) ?_
        refine GoT.nil ?_
        refine Wp.ret ?_
        cases h
        exact LeafQ.ret [] (by decide) (.cons (.tmp rfl) (.cons (.tmp rfl) (.cons (.tmp rfl) .nil))) rfl
theorem codec_ReadInts_ok {b : List UInt8} {at_1 : Int} {limit : Int} {r : List Int × Int × Int} (h : codec_ReadInts b at_1 limit = some r) : FnR Try.prog 25 [((slAV 1 byteAV) b), (iAV at_1), (iAV limit)] (.tup [(slT 0 0 1 iAV r.1), (iAV r.2.1), (iAV r.2.2)]) := by
  refine FnR.intro' (fn := Try.f25) (N := 47) Try.func25 rfl rfl (Nat.le_of_ble_eq_true rfl) [6, 11, 16, 30, 39, 41, 42, 45] ?_
  refine Wp.seq ?_
  refine Wp.region ?_
  refine GoT.q rfl (QEx.as (slT 6 0 1 iAV ([] : List Int)) (QEx.assign rfl (.nil))) rfl (lt_b rfl) ?_
  refine GoT.q rfl (QEx.as (iAV 0) (QEx.assign rfl .con)) rfl (lt_b rfl) ?_
  refine GoT.q rfl (QEx.as (iAV 0) (QEx.assign rfl .con)) rfl (lt_b rfl) ?_
  refine GoT.nil ?_
  refine bind_e h fun r1 hr1 h => ?_
  refine Wp.seq ?_
  refine Wp.region ?_
  refine GoT.q rfl (QEx.move rfl (.tmp rfl)) rfl (lt_b rfl) ?_
  refine GoT.q rfl (QEx.move rfl (.tmp rfl)) rfl (lt_b rfl) ?_
  refine GoT.q rfl (QEx.move rfl (.tmp rfl)) rfl (lt_b rfl) ?_
  refine GoT.q rfl (QEx.cal0 (r := (.tup [(iAV r1.1), (iAV r1.2.1), (iAV r1.2.2)])) [((slAV 1 byteAV) b), (iAV at_1), (iAV limit)] rfl Try.call32 (.cons (.tmp rfl) (.cons (.tmp rfl) (.cons (.tmp rfl) .nil))) (codec_readLength_ok hr1) rfl rfl) rfl (lt_b rfl) ?_
  refine GoT.q rfl (QEx.move rfl (.tmp rfl)) rfl (lt_b rfl) ?_
  refine GoT.q rfl (QEx.extract rfl (.tmp rfl) rfl) rfl (lt_b rfl) ?_
  refine GoT.q rfl (QEx.extract rfl (.tmp rfl) rfl) rfl (lt_b rfl) ?_
  refine GoT.q rfl (QEx.extract rfl (.tmp rfl) rfl) rfl (lt_b rfl) ?_
  refine GoT.q rfl (QEx.assign rfl (.tmp rfl)) rfl (lt_b rfl) ?_
  refine GoT.q rfl (QEx.assign rfl (.tmp rfl)) rfl (lt_b rfl) ?_
  refine GoT.q rfl (QEx.assign rfl (.tmp rfl)) rfl (lt_b rfl) ?_
  refine GoT.nil ?_
  refine Wp.seq ?_
  refine Wp.seq ?_
  refine Wp.region ?_
  refine GoT.q rfl (QEx.move rfl (.tmp rfl)) rfl (lt_b rfl) ?_
  refine GoT.q rfl (QEx.neqK rfl (.tmp rfl) .con) rfl (lt_b rfl) ?_
  refine GoT.nil ?_
  refine Wp.condS h rfl (fun h => ?_) (fun h => ?_)
  · refine Wp.seq ?_
    refine Wp.region ?_
    refine GoT.q rfl (QEx.move rfl (.tmp rfl)) rfl (lt_b rfl) ?_
    refine GoT.q rfl (QEx.as (slT 6 0 1 iAV ([] : List Int)) (QEx.assign rfl (.nil))) rfl (lt_b rfl) ?_
    refine GoT.q rfl (QEx.as (iAV 0) (QEx.assign rfl .con)) rfl (lt_b rfl) ?_
    refine GoT.q rfl (QEx.assign rfl (.tmp rfl)) rfl (lt_b rfl) ?_
    refine GoT.nil ?_
    refine Wp.ret ?_
    cases h
    exact LeafQ.ret [(6, 0)] (by decide) (.cons (.tmp rfl) (.cons (.tmp rfl) (.cons (.tmp rfl) .nil))) rfl
  · refine Wp.skip ?_
    refine Wp.seq ?_
    refine Wp.region ?_
    refine GoT.q rfl (QEx.as (slT 11 0 1 iAV ([] : List Int)) (QEx.assign rfl (.nil))) rfl (lt_b rfl) ?_
    refine GoT.nil ?_
    refine Wp.join2 (fun v2 v3 => ⟨[(1, (iAV v2)), (11, (slT 11 0 1 iAV v3))], [], [6, 16, 30, 39, 41, 42, 45]⟩) (fun v2 v3 => codec_ReadInts_j2 v2 v3 = some r) ?_ ?_
    · intro v2 v3 h
      refine Wp.seq ?_
      refine Wp.region ?_
      refine GoT.q rfl (QEx.move rfl (.tmp rfl)) rfl (lt_b rfl) ?_
      refine GoT.q rfl (QEx.move rfl (.tmp rfl)) rfl (lt_b rfl) ?_
      refine GoT.q rfl (QEx.assign rfl (.tmp rfl)) rfl (lt_b rfl) ?_
      refine GoT.q rfl (QEx.assign rfl (.tmp rfl)) rfl (lt_b rfl) ?_
      refine GoT.q rfl (QEx.as (iAV 0) (QEx.assign rfl .con)) rfl (lt_b rfl) ?_
      refine GoT.nil ?_
      refine Wp.ret ?_
      cases h
      exact LeafQ.ret [(11, 0)] (by decide) (.cons (.tmp rfl) (.cons (.tmp rfl) (.cons (.tmp rfl) .nil))) rfl
    · refine Wp.seq ?_
      refine Wp.region ?_
      refine GoT.q rfl (QEx.move rfl (.tmp rfl)) rfl (lt_b rfl) ?_
      refine GoT.q rfl (QEx.as (iAV 0) (QEx.move rfl .con)) rfl (lt_b rfl) ?_
      refine GoT.nil ?_
      refine Wp.block ?_
      refine Wp.loop3 (fun v4 v5 v6 => ⟨[(0, ((slAV 1 byteAV) b)), (1, (iAV v4)), (11, (slT 11 0 1 iAV v5)), (26, (iAV r1.1)), (27, (iAV v6))], [], [6, 16, 30, 39, 41, 42, 45]⟩) (fun n v4 v5 v6 => codec_ReadInts_l1 b r1 codec_ReadInts_j2 n v4 v5 v6 = some r) fuel r1.2.1 ([] : List Int) 0 [] [] h (LS.to.mk (.b rfl rfl (.b rfl rfl (.r rfl rfl (.b rfl rfl (.b rfl rfl .n))))) .n rfl) ?_
      rintro (_ | n2) v4 v5 v6 h
      · exact none_e h
      rw [codec_ReadInts_l1] at h
      refine Wp.seq ?_
      refine Wp.region ?_
      refine GoT.q rfl (QEx.lssK rfl (.tmp rfl) (.tmp rfl)) rfl (lt_b rfl) ?_
      refine GoT.nil ?_
      refine Wp.seq ?_
      refine Wp.condS h rfl (fun h => ?_) (fun h => ?_)
      · refine Wp.skip ?_
        refine Wp.seq ?_
        refine Wp.block ?_
        refine bind_e h fun r7 hr7 h => ?_
        refine Wp.seq ?_
        refine Wp.region ?_
        refine GoT.q rfl (QEx.move rfl (.tmp rfl)) rfl (lt_b rfl) ?_
        refine GoT.q rfl (QEx.move rfl (.tmp rfl)) rfl (lt_b rfl) ?_
        refine GoT.q rfl (QEx.cal0 (r := (.tup [(iAV r7.1), (iAV r7.2.1), (iAV r7.2.2)])) [((slAV 1 byteAV) b), (iAV v4)] rfl Try.call16 (.cons (.tmp rfl) (.cons (.tmp rfl) .nil)) (codec_ReadInt_ok hr7) rfl rfl) rfl (lt_b rfl) ?_
        refine GoT.q rfl (QEx.move rfl (.tmp rfl)) rfl (lt_b rfl) ?_
        refine GoT.q rfl (QEx.extract rfl (.tmp rfl) rfl) rfl (lt_b rfl) ?_
        refine GoT.q rfl (QEx.extract rfl (.tmp rfl) rfl) rfl (lt_b rfl) ?_
        refine GoT.q rfl (QEx.extract rfl (.tmp rfl) rfl) rfl (lt_b rfl) ?_
        refine GoT.q rfl (QEx.assign rfl (.tmp rfl)) rfl (lt_b rfl) ?_
        refine GoT.q rfl (QEx.assign rfl (.tmp rfl)) rfl (lt_b rfl) ?_
        refine GoT.q rfl (QEx.assign rfl (.tmp rfl)) rfl (lt_b rfl) ?_
        refine GoT.nil ?_
        refine Wp.seq ?_
        refine Wp.seq ?_
        refine Wp.region ?_
        refine GoT.q rfl (QEx.move rfl (.tmp rfl)) rfl (lt_b rfl) ?_
        refine GoT.q rfl (QEx.neqK rfl (.tmp rfl) .con) rfl (lt_b rfl) ?_
        refine GoT.nil ?_
        refine Wp.condS h rfl (fun h => ?_) (fun h => ?_)
        · refine Wp.seq ?_
          refine Wp.region ?_
          refine GoT.q rfl (QEx.move rfl (.tmp rfl)) rfl (lt_b rfl) ?_
          refine GoT.q rfl (QEx.as (slT 6 0 1 iAV ([] : List Int)) (QEx.assign rfl (.nil))) rfl (lt_b rfl) ?_
          refine GoT.q rfl (QEx.as (iAV 0) (QEx.assign rfl .con)) rfl (lt_b rfl) ?_
          refine GoT.q rfl (QEx.assign rfl (.tmp rfl)) rfl (lt_b rfl) ?_
          refine GoT.nil ?_
          refine Wp.ret ?_
          cases h
          exact LeafQ.ret [(6, 0)] (by decide) (.cons (.tmp rfl) (.cons (.tmp rfl) (.cons (.tmp rfl) .nil))) rfl
        · refine Wp.skip ?_
          refine chk_e h fun c8 h => ?_
          refine let_e h fun x9 hx9 h => ?_
          refine Wp.region ?_
          refine GoT.q rfl (QEx.move rfl (.tmp rfl)) rfl (lt_b rfl) ?_
          refine GoT.q rfl (QEx.move rfl (.tmp rfl)) rfl (lt_b rfl) ?_
          refine GoT.q rfl (QEx.as (slT 41 0 1 iAV ([r7.1] : List Int)) (QEx.buildSlice rfl et53 (.cons (.tmp rfl) rfl rfl rfl .nil) rfl (by decide))) rfl (lt_b rfl) ?_
          refine GoT.a rfl (AEx.appL (E := iAV) rfl et53 (.tmp rfl) (.tmp rfl) rfl c8 rfl rfl hx9 (by decide)) rfl (lt_b rfl) ?_
          refine GoT.q rfl (QEx.move rfl (.tmp rfl)) rfl (lt_b rfl) ?_
          refine GoT.q rfl (QEx.assign rfl (.tmp rfl)) rfl (lt_b rfl) ?_
          refine GoT.q rfl (QEx.assign rfl (.tmp rfl)) rfl (lt_b rfl) ?_
          refine GoT.nil ?_
          refine let_e h fun x10 hx10 h => ?_
          refine Wp.region ?_
          refine GoT.q rfl (QEx.addK rfl (.tmp rfl) .con) rfl (lt_b rfl) ?_
          refine GoT.q rfl (QEx.eq (QEx.move rfl (.tmp rfl)) (congrArg iAV hx10)) rfl (lt_b rfl) ?_
          refine GoT.nil ?_
          exact Round3.mk r7.2.1 x9 x10 [] [(42, 11)] h (LS.to.mk (.b rfl rfl (.b rfl rfl (.r rfl rfl (.b rfl rfl (.b rfl rfl .n))))) .n rfl)
      · refine Wp.exit ?_
        exact Joined2.mk v4 v5 [] [] h (LS.to.mk (.b rfl rfl (.r rfl rfl .n)) .n rfl)
theorem ref07_Ints_ok {a : List Int} {b : List Int} {r : Bool} (h : ref07_Ints a b = some r) : FnR Try.prog 27 [((slAV 1 iAV) a), ((slAV 1 iAV) b)] (boolAV r) := by
  refine FnR.intro' (fn := Try.f27) (N := 26) Try.func27 rfl rfl (Nat.le_of_ble_eq_true rfl) [6, 8, 12, 17, 21] ?_
  refine Wp.seq ?_
  refine Wp.region ?_
  refine GoT.q rfl (QEx.as (boolAV false) (QEx.assign rfl .con)) rfl (lt_b rfl) ?_
  refine GoT.nil ?_
  refine Wp.seq ?_
  refine Wp.seq ?_
  refine Wp.region ?_
  refine GoT.q rfl (QEx.move rfl (.tmp rfl)) rfl (lt_b rfl) ?_
  refine GoT.q rfl (QEx.lenL rfl ⟨_, Try.underlying53⟩ (.tmp rfl)) rfl (lt_b rfl) ?_
  refine GoT.q rfl (QEx.move rfl (.tmp rfl)) rfl (lt_b rfl) ?_
  refine GoT.q rfl (QEx.lenL rfl ⟨_, Try.underlying53⟩ (.tmp rfl)) rfl (lt_b rfl) ?_
  refine GoT.q rfl (QEx.neqK rfl (.tmp rfl) (.tmp rfl)) rfl (lt_b rfl) ?_
  refine GoT.nil ?_
  refine Wp.condS h rfl (fun h => ?_) (fun h => ?_)
  · refine Wp.seq ?_
    refine Wp.region ?_
    refine GoT.q rfl (QEx.as (boolAV false) (QEx.assign rfl .con)) rfl (lt_b rfl) ?_
    refine GoT.nil ?_
    refine Wp.ret ?_
    cases h
    exact LeafQ.ret [] (by decide) (.cons (.tmp rfl) .nil) rfl
  · refine Wp.skip ?_
    refine Wp.join0 (⟨[], [], [6, 8, 12, 17, 21]⟩) (ref07_Ints_j2 = some r) ?_ ?_
    · intro h
      refine Wp.seq ?_
      refine Wp.region ?_
      refine GoT.q rfl (QEx.as (boolAV true) (QEx.assign rfl .con)) rfl (lt_b rfl) ?_
      refine GoT.nil ?_
      refine Wp.ret ?_
      cases h
      exact LeafQ.ret [] (by decide) (.cons (.tmp rfl) .nil) rfl
    · refine Wp.seq ?_
      refine Wp.region ?_
      refine GoT.q rfl (QEx.as (iAV 0) (QEx.assign rfl .con)) rfl (lt_b rfl) ?_
      refine GoT.nil ?_
      refine Wp.block ?_
      refine Wp.loop1 (fun v1 => ⟨[(0, ((slAV 1 iAV) a)), (1, ((slAV 1 iAV) b)), (5, (iAV v1))], [], [6, 8, 12, 17, 21]⟩) (fun n v1 => ref07_Ints_l1 a b ref07_Ints_j2 n v1 = some r) fuel 0 [] [] h (LS.to.mk (.b rfl rfl (.b rfl rfl (.b rfl rfl .n))) .n rfl) ?_
      rintro (_ | n2) v1 h
      · exact none_e h
      rw [ref07_Ints_l1] at h
      refine Wp.seq ?_
      refine Wp.seq ?_
      refine Wp.region ?_
      refine GoT.q rfl (QEx.move rfl (.tmp rfl)) rfl (lt_b rfl) ?_
      refine GoT.q rfl (QEx.move rfl (.tmp rfl)) rfl (lt_b rfl) ?_
      refine GoT.q rfl (QEx.lenL rfl ⟨_, Try.underlying53⟩ (.tmp rfl)) rfl (lt_b rfl) ?_
      refine GoT.q rfl (QEx.lssK rfl (.tmp rfl) (.tmp rfl)) rfl (lt_b rfl) ?_
      refine GoT.nil ?_
      refine Wp.condS h rfl (fun h => ?_) (fun h => ?_)
      · refine Wp.skip ?_
        refine Wp.seq ?_
        refine Wp.block ?_
        refine chk_e h fun c2 h => ?_
        refine chk_e h fun c3 h => ?_
        refine Wp.seq ?_
        refine Wp.drawn2 (n0 := 9) [6, 8, 12, 17, 21] mixed ?_
        refine GoD.q rfl (QEx.move rfl (.tmp rfl)) rfl (lt_b rfl) ?_
        refine GoD.q rfl (QEx.move rfl (.tmp rfl)) rfl (lt_b rfl) ?_
        refine GoD.q rfl (QEx.as (.cptr [(iAV (ix a v1))]) (QEx.idxL (E := iAV) rfl et53 (.tmp rfl) (.tmp rfl) c2)) rfl (lt_b rfl) ?_
        refine GoD.q rfl (QEx.ldC (x := (iAV (ix a v1))) rfl ag3 ts3 (.tmp rfl) (.inr ⟨rfl, rfl⟩)) rfl (lt_b rfl) ?_
        refine GoD.q rfl (QEx.move rfl (.tmp rfl)) rfl (lt_b rfl) ?_
        refine GoD.q rfl (QEx.move rfl (.tmp rfl)) rfl (lt_b rfl) ?_
        refine GoD.q rfl (QEx.as (.cptr [(iAV (ix b v1))]) (QEx.idxL (E := iAV) rfl et53 (.tmp rfl) (.tmp rfl) c3)) rfl (lt_b rfl) ?_
        refine GoD.q rfl (QEx.ldC (x := (iAV (ix b v1))) rfl ag3 ts3 (.tmp rfl) (.inr ⟨rfl, rfl⟩)) rfl (lt_b rfl) ?_
        refine GoD.q rfl (QEx.neqK rfl (.tmp rfl) (.tmp rfl)) rfl (lt_b rfl) ?_
        refine GoD.nil ⟨by kernel_rfl, by kernel_rfl, by kernel_rfl, by kernel_rfl, by kernel_rfl, ?_⟩
        refine GoT.nil ?_
        refine Wp.condS h rfl (fun h => ?_) (fun h => ?_)
        · refine Wp.seq ?_
          refine Wp.region ?_
          refine GoT.q rfl (QEx.as (boolAV false) (QEx.assign rfl .con)) rfl (lt_b rfl) ?_
          refine GoT.nil ?_
          refine Wp.ret ?_
          cases h
          exact LeafQ.ret [] (by decide) (.cons (.tmp rfl) .nil) rfl
        · refine Wp.skip ?_
          refine let_e h fun x4 hx4 h => ?_
          refine Wp.region ?_
          refine GoT.q rfl (QEx.move rfl (.tmp rfl)) rfl (lt_b rfl) ?_
          refine GoT.q rfl (QEx.addK rfl (.tmp rfl) .con) rfl (lt_b rfl) ?_
          refine GoT.q rfl (QEx.eq (QEx.assign rfl (.tmp rfl)) (congrArg iAV hx4)) rfl (lt_b rfl) ?_
          refine GoT.nil ?_
          exact Round1.mk x4 [] [] h (LS.to.mk (.b rfl rfl (.b rfl rfl (.b rfl rfl .n))) .n rfl)
      · refine Wp.exit ?_
        exact Joined0.mk [] [] h (LS.to.mk .n .n rfl)
theorem law07_CodecRoundTrip_ok {b : List UInt8} {n_1 : Int} {x_2 : Bool} {l : List Int} {more : List UInt8} {r : Bool} (h : law07_CodecRoundTrip b n_1 x_2 l more = some r) : FnR Try.prog 8 [((slAV 1 byteAV) b), (iAV n_1), (boolAV x_2), ((slAV 1 iAV) l), ((slAV 1 byteAV) more)] (boolAV r) := by
  refine FnR.intro' (fn := Try.f8) (N := 159) Try.func8 rfl rfl (Nat.le_of_ble_eq_true rfl) [11, 12, 13, 14, 15, 21, 23, 25, 26, 30, 36, 39, 41, 42, 43, 44, 46, 47, 48, 49, 50, 51, 52, 53, 54, 56, 57, 58, 60, 61, 72, 74, 84, 85, 96, 106, 107, 109, 111, 115, 116, 121, 123, 133, 134, 145, 147] ?_
  refine Wp.seq ?_
  refine Wp.region ?_
  refine GoT.q rfl (QEx.as (boolAV false) (QEx.assign rfl .con)) rfl (lt_b rfl) ?_
  refine GoT.nil ?_
  refine Wp.seq ?_
  refine let_e h fun r1 hr1 h => ?_
  refine Wp.seq ?_
  refine Wp.region ?_
  refine GoT.q rfl (QEx.move rfl (.tmp rfl)) rfl (lt_b rfl) ?_
  refine GoT.q rfl (QEx.move rfl (.tmp rfl)) rfl (lt_b rfl) ?_
  refine GoT.q rfl (QEx.cal0 (r := (boolAV r1)) [((slAV 1 byteAV) b), (strAV ([] : List UInt8)), ((slAV 1 iAV) l)] rfl Try.call9 (.cons (.tmp rfl) (.cons (.cs ([] : List UInt8) rfl) (.cons (.tmp rfl) .nil))) (law07_small_ok hr1) rfl rfl) rfl (lt_b rfl) ?_
  refine GoT.q rfl (QEx.notK rfl (.tmp rfl)) rfl (lt_b rfl) ?_
  refine GoT.q rfl (QEx.move rfl (.tmp rfl)) rfl (lt_b rfl) ?_
  refine GoT.g rfl rfl rfl (fun hg => QEx.move rfl (.tmp rfl)) rfl (lt_b rfl) ?_
  refine GoT.g rfl rfl rfl (fun hg => QEx.lenL rfl ⟨_, Try.underlying22⟩ (.opt (.tmp rfl) hg)) rfl (lt_b rfl) ?_
  refine GoT.g rfl rfl rfl (fun hg => QEx.gtrK rfl (.opt (.tmp rfl) hg) .con) rfl (lt_b rfl) ?_
  refine GoT.q rfl (QEx.pickK rfl (.tmp rfl) (fun hp => .con) (fun hp => (.opt (.tmp rfl) (beq_f hp)))) rfl (lt_b rfl) ?_
  refine GoT.nil ?_
  refine Wp.condS h rfl (fun h => ?_) (fun h => ?_)
  · refine bind_e h fun r2 hr2 h => ?_
    refine Wp.seq ?_
    refine Wp.region ?_
    refine GoT.q rfl (QEx.cal0 (r := (boolAV r2)) [] rfl Try.call10 .nil (law07_example_ok hr2) rfl rfl) rfl (lt_b rfl) ?_
    refine GoT.q rfl (QEx.assign rfl (.tmp rfl)) rfl (lt_b rfl) ?_
    refine GoT.nil ?_
    refine Wp.ret ?_
    cases h
    exact LeafQ.ret [] (by decide) (.cons (.tmp rfl) .nil) rfl
  · refine Wp.skip ?_
    refine let_e h fun x3 hx3 h => ?_
    refine Wp.seq ?_
    refine Wp.region ?_
    refine GoT.q rfl (QEx.move rfl (.tmp rfl)) rfl (lt_b rfl) ?_
    refine GoT.q rfl (QEx.move rfl (.tmp rfl)) rfl (lt_b rfl) ?_
    refine GoT.q rfl (QEx.lenL rfl ⟨_, Try.underlying22⟩ (.tmp rfl)) rfl (lt_b rfl) ?_
    refine GoT.q rfl (QEx.as (Vec.av (⟨n_1, ((b).length : Int)⟩ : Vec)) (QEx.buildZ rfl Try.underlying32 zt32 (by kernel_rfl) (.cons rfl (.tmp rfl) rfl rfl (le_b rfl) (.cons rfl (.tmp rfl) rfl rfl (le_b rfl) .nil)))) rfl (lt_b rfl) ?_
    refine GoT.a rfl (AEx.alZ rfl zt32 rfl rfl) rfl (lt_b rfl) ?_
    refine GoT.s rfl (AEx.sto (Z := (Vec.cells x3)) rfl rfl ts32 (.tmp rfl) rfl (.tmp rfl) rfl rfl (le_b rfl) (congrArg (fun x => (Vec.cells x)) hx3)) rfl ?_
    refine GoT.nil ?_
    refine bind_e h fun r4 hr4 h => ?_
    refine chk_e h fun c5 h => ?_
    refine let_e h fun x6 hx6 h => ?_
    refine Wp.seq ?_
    refine Wp.region ?_
    refine GoT.q rfl (QEx.move rfl (.tmp rfl)) rfl (lt_b rfl) ?_
    refine GoT.q rfl (QEx.move rfl (.tmp rfl)) rfl (lt_b rfl) ?_
    refine GoT.c rfl (QEx.cal (r' := (slT 41 0 1 byteAV r4)) [((slAV 1 byteAV) b), (iAV n_1)] rfl Try.call11 (.cons (.tmp rfl) (.cons (.tmp rfl) .nil)) (codec_AppendInt_ok hr4) rfl rfl rfl) rfl rfl (lt_b rfl) ?_
    refine GoT.q rfl (QEx.move rfl (.tmp rfl)) rfl (lt_b rfl) ?_
    refine GoT.a rfl (AEx.appL (E := byteAV) rfl et22 (.tmp rfl) (.tmp rfl) rfl c5 rfl rfl hx6 (by decide)) rfl (lt_b rfl) ?_
    refine GoT.q rfl (QEx.assign rfl (.tmp rfl)) rfl (lt_b rfl) ?_
    refine GoT.nil ?_
    refine bind_e h fun r7 hr7 h => ?_
    refine chk_e h fun c8 h => ?_
    refine let_e h fun x9 hx9 h => ?_
    refine Wp.seq ?_
    refine Wp.region ?_
    refine GoT.q rfl (QEx.move rfl (.tmp rfl)) rfl (lt_b rfl) ?_
    refine GoT.q rfl (QEx.move rfl (.tmp rfl)) rfl (lt_b rfl) ?_
    refine GoT.c rfl (QEx.cal (r' := (slT 46 0 1 byteAV r7)) [((slAV 1 byteAV) b), (boolAV x_2)] rfl Try.call13 (.cons (.tmp rfl) (.cons (.tmp rfl) .nil)) (codec_AppendBool_ok hr7) rfl rfl rfl) rfl rfl (lt_b rfl) ?_
    refine GoT.q rfl (QEx.move rfl (.tmp rfl)) rfl (lt_b rfl) ?_
    refine GoT.a rfl (AEx.appL (E := byteAV) rfl et22 (.tmp rfl) (.tmp rfl) rfl c8 rfl rfl hx9 (by decide)) rfl (lt_b rfl) ?_
    refine GoT.q rfl (QEx.assign rfl (.tmp rfl)) rfl (lt_b rfl) ?_
    refine GoT.nil ?_
    refine bind_e h fun r10 hr10 h => ?_
    refine chk_e h fun c11 h => ?_
    refine let_e h fun x12 hx12 h => ?_
    refine Wp.seq ?_
    refine Wp.region ?_
    refine GoT.q rfl (QEx.move rfl (.tmp rfl)) rfl (lt_b rfl) ?_
    refine GoT.q rfl (QEx.move rfl (.tmp rfl)) rfl (lt_b rfl) ?_
    refine GoT.c rfl (QEx.cal (r' := (slT 51 0 1 byteAV r10)) [((slAV 1 byteAV) b), ((slAV 1 iAV) l)] rfl Try.call14 (.cons (.tmp rfl) (.cons (.tmp rfl) .nil)) (codec_AppendInts_ok hr10) rfl rfl rfl) rfl rfl (lt_b rfl) ?_
    refine GoT.q rfl (QEx.move rfl (.tmp rfl)) rfl (lt_b rfl) ?_
    refine GoT.a rfl (AEx.appL (E := byteAV) rfl et22 (.tmp rfl) (.tmp rfl) rfl c11 rfl rfl hx12 (by decide)) rfl (lt_b rfl) ?_
    refine GoT.q rfl (QEx.assign rfl (.tmp rfl)) rfl (lt_b rfl) ?_
    refine GoT.nil ?_
    refine bind_e h fun r13 hr13 h => ?_
    refine chk_e h fun c14 h => ?_
    refine let_e h fun x15 hx15 h => ?_
    refine Wp.seq ?_
    refine Wp.region ?_
    refine GoT.q rfl (QEx.move rfl (.tmp rfl)) rfl (lt_b rfl) ?_
    refine GoT.qr rfl rfl (QEx.ldP (Vec.cells x3) (Vec.av x3) rfl ag32 ts32 (.tmp rfl) (le_b rfl) rfl) rfl (lt_b rfl) ?_
    refine GoT.c rfl (QEx.cal (r' := (slT 56 0 1 byteAV r13)) [((slAV 1 byteAV) b), (Vec.av x3)] rfl Try.call15 (.cons (.tmp rfl) (.cons (.tmp rfl) .nil)) (codec_AppendVec_ok hr13) rfl rfl rfl) rfl rfl (lt_b rfl) ?_
    refine GoT.q rfl (QEx.move rfl (.tmp rfl)) rfl (lt_b rfl) ?_
    refine GoT.a rfl (AEx.appL (E := byteAV) rfl et22 (.tmp rfl) (.tmp rfl) rfl c14 rfl rfl hx15 (by decide)) rfl (lt_b rfl) ?_
    refine GoT.q rfl (QEx.assign rfl (.tmp rfl)) rfl (lt_b rfl) ?_
    refine GoT.nil ?_
    refine bind_e h fun r16 hr16 h => ?_
    refine Wp.seq ?_
    refine Wp.region ?_
    refine GoT.q rfl (QEx.move rfl (.tmp rfl)) rfl (lt_b rfl) ?_
    refine GoT.q rfl (QEx.move rfl (.tmp rfl)) rfl (lt_b rfl) ?_
    refine GoT.q rfl (QEx.lenL rfl ⟨_, Try.underlying22⟩ (.tmp rfl)) rfl (lt_b rfl) ?_
    refine GoT.q rfl (QEx.cal0 (r := (.tup [(iAV r16.1), (iAV r16.2.1), (iAV r16.2.2)])) [((slAV 1 byteAV) x6), (iAV ((b).length : Int))] rfl Try.call16 (.cons (.tmp rfl) (.cons (.tmp rfl) .nil)) (codec_ReadInt_ok hr16) rfl rfl) rfl (lt_b rfl) ?_
    refine GoT.q rfl (QEx.move rfl (.tmp rfl)) rfl (lt_b rfl) ?_
    refine GoT.q rfl (QEx.extract rfl (.tmp rfl) rfl) rfl (lt_b rfl) ?_
    refine GoT.q rfl (QEx.extract rfl (.tmp rfl) rfl) rfl (lt_b rfl) ?_
    refine GoT.q rfl (QEx.extract rfl (.tmp rfl) rfl) rfl (lt_b rfl) ?_
    refine GoT.q rfl (QEx.assign rfl (.tmp rfl)) rfl (lt_b rfl) ?_
    refine GoT.q rfl (QEx.assign rfl (.tmp rfl)) rfl (lt_b rfl) ?_
    refine GoT.q rfl (QEx.assign rfl (.tmp rfl)) rfl (lt_b rfl) ?_
    refine GoT.nil ?_
    refine Wp.seq ?_
    refine let_e h fun x17 hx17 h => ?_
    refine Wp.seq ?_
    refine Wp.region ?_
    refine GoT.q rfl (QEx.move rfl (.tmp rfl)) rfl (lt_b rfl) ?_
    refine GoT.q rfl (QEx.move rfl (.tmp rfl)) rfl (lt_b rfl) ?_
    refine GoT.q rfl (QEx.neqK rfl (.tmp rfl) (.tmp rfl)) rfl (lt_b rfl) ?_
    refine GoT.q rfl (QEx.move rfl (.tmp rfl)) rfl (lt_b rfl) ?_
    refine GoT.g rfl rfl rfl (fun hg => QEx.move rfl (.tmp rfl)) rfl (lt_b rfl) ?_
    refine GoT.g rfl rfl rfl (fun hg => QEx.move rfl (.tmp rfl)) rfl (lt_b rfl) ?_
    refine GoT.g rfl rfl rfl (fun hg => QEx.lenL rfl ⟨_, Try.underlying22⟩ (.opt (.tmp rfl) hg)) rfl (lt_b rfl) ?_
    refine GoT.g rfl rfl rfl (fun hg => QEx.move rfl (.tmp rfl)) rfl (lt_b rfl) ?_
    refine GoT.g rfl rfl rfl (fun hg => QEx.lenL rfl ⟨_, Try.underlying22⟩ (.opt (.tmp rfl) hg)) rfl (lt_b rfl) ?_
    refine GoT.g rfl rfl rfl (fun hg => QEx.subK rfl (.opt (.tmp rfl) hg) (.opt (.tmp rfl) hg)) rfl (lt_b rfl) ?_
    refine GoT.g rfl rfl rfl (fun hg => QEx.eq (QEx.neqK rfl (.opt (.tmp rfl) hg) (.opt (.tmp rfl) hg)) (congrArg boolAV hx17)) rfl (lt_b rfl) ?_
    refine GoT.q rfl (QEx.pickK rfl (.tmp rfl) (fun hp => .con) (fun hp => (.opt (.tmp rfl) (beq_f hp)))) rfl (lt_b rfl) ?_
    refine GoT.q rfl (QEx.move rfl (.tmp rfl)) rfl (lt_b rfl) ?_
    refine GoT.g rfl rfl rfl (fun hg => QEx.move rfl (.tmp rfl)) rfl (lt_b rfl) ?_
    refine GoT.g rfl rfl rfl (fun hg => QEx.neqK rfl (.opt (.tmp rfl) hg) .con) rfl (lt_b rfl) ?_
    refine GoT.q rfl (QEx.pickK rfl (.tmp rfl) (fun hp => .con) (fun hp => (.opt (.tmp rfl) (beq_f hp)))) rfl (lt_b rfl) ?_
    refine GoT.nil ?_
    refine Wp.condS h rfl (fun h => ?_) (fun h => ?_)
    · refine Wp.seq ?_
      refine Wp.region ?_
      refine GoT.q rfl (QEx.as (boolAV false) (QEx.assign rfl .con)) rfl (lt_b rfl) ?_
      refine GoT.nil ?_
      refine Wp.ret ?_
      cases h
      exact LeafQ.ret [] (by decide) (.cons (.tmp rfl) .nil) rfl
    · refine Wp.skip ?_
      refine bind_e h fun r18 hr18 h => ?_
      refine Wp.seq ?_
      refine Wp.region ?_
      refine GoT.q rfl (QEx.move rfl (.tmp rfl)) rfl (lt_b rfl) ?_
      refine GoT.q rfl (QEx.move rfl (.tmp rfl)) rfl (lt_b rfl) ?_
      refine GoT.q rfl (QEx.lenL rfl ⟨_, Try.underlying22⟩ (.tmp rfl)) rfl (lt_b rfl) ?_
      refine GoT.q rfl (QEx.cal0 (r := (.tup [(boolAV r18.1), (iAV r18.2.1), (iAV r18.2.2)])) [((slAV 1 byteAV) x9), (iAV ((b).length : Int))] rfl Try.call18 (.cons (.tmp rfl) (.cons (.tmp rfl) .nil)) (codec_ReadBool_ok hr18) rfl rfl) rfl (lt_b rfl) ?_
      refine GoT.q rfl (QEx.move rfl (.tmp rfl)) rfl (lt_b rfl) ?_
      refine GoT.q rfl (QEx.extract rfl (.tmp rfl) rfl) rfl (lt_b rfl) ?_
      refine GoT.q rfl (QEx.extract rfl (.tmp rfl) rfl) rfl (lt_b rfl) ?_
      refine GoT.q rfl (QEx.extract rfl (.tmp rfl) rfl) rfl (lt_b rfl) ?_
      refine GoT.q rfl (QEx.assign rfl (.tmp rfl)) rfl (lt_b rfl) ?_
      refine GoT.q rfl (QEx.assign rfl (.tmp rfl)) rfl (lt_b rfl) ?_
      refine GoT.q rfl (QEx.assign rfl (.tmp rfl)) rfl (lt_b rfl) ?_
      refine GoT.nil ?_
      refine Wp.seq ?_
      refine Wp.seq ?_
      refine Wp.region ?_
      refine GoT.q rfl (QEx.move rfl (.tmp rfl)) rfl (lt_b rfl) ?_
      refine GoT.q rfl (QEx.move rfl (.tmp rfl)) rfl (lt_b rfl) ?_
      refine GoT.q rfl (QEx.neqB rfl (.tmp rfl) (.tmp rfl) Try.underlying4) rfl (lt_b rfl) ?_
      refine GoT.q rfl (QEx.move rfl (.tmp rfl)) rfl (lt_b rfl) ?_
      refine GoT.g rfl rfl rfl (fun hg => QEx.move rfl (.tmp rfl)) rfl (lt_b rfl) ?_
      refine GoT.g rfl rfl rfl (fun hg => QEx.move rfl (.tmp rfl)) rfl (lt_b rfl) ?_
      refine GoT.g rfl rfl rfl (fun hg => QEx.lenL rfl ⟨_, Try.underlying22⟩ (.opt (.tmp rfl) hg)) rfl (lt_b rfl) ?_
      refine GoT.g rfl rfl rfl (fun hg => QEx.addK rfl (.opt (.tmp rfl) hg) .con) rfl (lt_b rfl) ?_
      refine GoT.g rfl rfl rfl (fun hg => QEx.neqK rfl (.opt (.tmp rfl) hg) (.opt (.tmp rfl) hg)) rfl (lt_b rfl) ?_
      refine GoT.q rfl (QEx.pickK rfl (.tmp rfl) (fun hp => .con) (fun hp => (.opt (.tmp rfl) (beq_f hp)))) rfl (lt_b rfl) ?_
      refine GoT.q rfl (QEx.move rfl (.tmp rfl)) rfl (lt_b rfl) ?_
      refine GoT.g rfl rfl rfl (fun hg => QEx.move rfl (.tmp rfl)) rfl (lt_b rfl) ?_
      refine GoT.g rfl rfl rfl (fun hg => QEx.neqK rfl (.opt (.tmp rfl) hg) .con) rfl (lt_b rfl) ?_
      refine GoT.q rfl (QEx.pickK rfl (.tmp rfl) (fun hp => .con) (fun hp => (.opt (.tmp rfl) (beq_f hp)))) rfl (lt_b rfl) ?_
      refine GoT.nil ?_
      refine Wp.condS h rfl (fun h => ?_) (fun h => ?_)
      · refine Wp.seq ?_
        refine Wp.region ?_
        refine GoT.q rfl (QEx.as (boolAV false) (QEx.assign rfl .con)) rfl (lt_b rfl) ?_
        refine GoT.nil ?_
        refine Wp.ret ?_
        cases h
        exact LeafQ.ret [] (by decide) (.cons (.tmp rfl) .nil) rfl
      · refine Wp.skip ?_
        refine bind_e h fun r19 hr19 h => ?_
        refine Wp.seq ?_
        refine Wp.region ?_
        refine GoT.q rfl (QEx.move rfl (.tmp rfl)) rfl (lt_b rfl) ?_
        refine GoT.q rfl (QEx.move rfl (.tmp rfl)) rfl (lt_b rfl) ?_
        refine GoT.q rfl (QEx.lenL rfl ⟨_, Try.underlying22⟩ (.tmp rfl)) rfl (lt_b rfl) ?_
        refine GoT.q rfl (QEx.move rfl (.tmp rfl)) rfl (lt_b rfl) ?_
        refine GoT.q rfl (QEx.lenL rfl ⟨_, Try.underlying53⟩ (.tmp rfl)) rfl (lt_b rfl) ?_
        refine GoT.c rfl (QEx.cal (r' := (.tup [(slT 111 0 1 iAV r19.1), (iAV r19.2.1), (iAV r19.2.2)])) [((slAV 1 byteAV) x12), (iAV ((b).length : Int)), (iAV ((l).length : Int))] rfl Try.call25 (.cons (.tmp rfl) (.cons (.tmp rfl) (.cons (.tmp rfl) .nil))) (codec_ReadInts_ok hr19) rfl rfl rfl) rfl rfl (lt_b rfl) ?_
        refine GoT.q rfl (QEx.move rfl (.tmp rfl)) rfl (lt_b rfl) ?_
        refine GoT.q rfl (QEx.extract rfl (.tmp rfl) rfl) rfl (lt_b rfl) ?_
        refine GoT.q rfl (QEx.extract rfl (.tmp rfl) rfl) rfl (lt_b rfl) ?_
        refine GoT.q rfl (QEx.extract rfl (.tmp rfl) rfl) rfl (lt_b rfl) ?_
        refine GoT.q rfl (QEx.assign rfl (.tmp rfl)) rfl (lt_b rfl) ?_
        refine GoT.q rfl (QEx.assign rfl (.tmp rfl)) rfl (lt_b rfl) ?_
        refine GoT.q rfl (QEx.assign rfl (.tmp rfl)) rfl (lt_b rfl) ?_
        refine GoT.nil ?_
        refine Wp.seq ?_
        refine bind_e h fun r20 hr20 h => ?_
        refine let_e h fun x21 hx21 h => ?_
        refine Wp.seq ?_
        refine Wp.region ?_
        refine GoT.q rfl (QEx.move rfl (.tmp rfl)) rfl (lt_b rfl) ?_
        refine GoT.q rfl (QEx.move rfl (.tmp rfl)) rfl (lt_b rfl) ?_
        refine GoT.q rfl (QEx.cal0 (r := (boolAV r20)) [((slAV 1 iAV) r19.1), ((slAV 1 iAV) l)] rfl Try.call27 (.cons (.tmp rfl) (.cons (.tmp rfl) .nil)) (ref07_Ints_ok hr20) rfl rfl) rfl (lt_b rfl) ?_
        refine GoT.q rfl (QEx.notK rfl (.tmp rfl)) rfl (lt_b rfl) ?_
        refine GoT.q rfl (QEx.move rfl (.tmp rfl)) rfl (lt_b rfl) ?_
        refine GoT.g rfl rfl rfl (fun hg => QEx.move rfl (.tmp rfl)) rfl (lt_b rfl) ?_
        refine GoT.g rfl rfl rfl (fun hg => QEx.move rfl (.tmp rfl)) rfl (lt_b rfl) ?_
        refine GoT.g rfl rfl rfl (fun hg => QEx.lenL rfl ⟨_, Try.underlying22⟩ (.opt (.tmp rfl) hg)) rfl (lt_b rfl) ?_
        refine GoT.g rfl rfl rfl (fun hg => QEx.move rfl (.tmp rfl)) rfl (lt_b rfl) ?_
        refine GoT.g rfl rfl rfl (fun hg => QEx.lenL rfl ⟨_, Try.underlying22⟩ (.opt (.tmp rfl) hg)) rfl (lt_b rfl) ?_
        refine GoT.g rfl rfl rfl (fun hg => QEx.subK rfl (.opt (.tmp rfl) hg) (.opt (.tmp rfl) hg)) rfl (lt_b rfl) ?_
        refine GoT.g rfl rfl rfl (fun hg => QEx.eq (QEx.neqK rfl (.opt (.tmp rfl) hg) (.opt (.tmp rfl) hg)) (congrArg boolAV hx21)) rfl (lt_b rfl) ?_
        refine GoT.q rfl (QEx.pickK rfl (.tmp rfl) (fun hp => .con) (fun hp => (.opt (.tmp rfl) (beq_f hp)))) rfl (lt_b rfl) ?_
        refine GoT.q rfl (QEx.move rfl (.tmp rfl)) rfl (lt_b rfl) ?_
        refine GoT.g rfl rfl rfl (fun hg => QEx.move rfl (.tmp rfl)) rfl (lt_b rfl) ?_
        refine GoT.g rfl rfl rfl (fun hg => QEx.neqK rfl (.opt (.tmp rfl) hg) .con) rfl (lt_b rfl) ?_
        refine GoT.q rfl (QEx.pickK rfl (.tmp rfl) (fun hp => .con) (fun hp => (.opt (.tmp rfl) (beq_f hp)))) rfl (lt_b rfl) ?_
        refine GoT.nil ?_
        refine Wp.condS h rfl (fun h => ?_) (fun h => ?_)
        · refine Wp.seq ?_
          refine Wp.region ?_
          refine GoT.q rfl (QEx.as (boolAV false) (QEx.assign rfl .con)) rfl (lt_b rfl) ?_
          refine GoT.nil ?_
          refine Wp.ret ?_
          cases h
          exact LeafQ.ret [] (by decide) (.cons (.tmp rfl) .nil) rfl
        · refine Wp.skip ?_
          refine bind_e h fun r22 hr22 h => ?_
          refine let_e h fun x23 hx23 h => ?_
          refine Wp.seq ?_
          refine Wp.region ?_
          refine GoT.q rfl (QEx.move rfl (.tmp rfl)) rfl (lt_b rfl) ?_
          refine GoT.q rfl (QEx.move rfl (.tmp rfl)) rfl (lt_b rfl) ?_
          refine GoT.q rfl (QEx.lenL rfl ⟨_, Try.underlying22⟩ (.tmp rfl)) rfl (lt_b rfl) ?_
          refine GoT.q rfl (QEx.cal0 (r := (.tup [(Vec.av r22.1), (iAV r22.2.1), (iAV r22.2.2)])) [((slAV 1 byteAV) x15), (iAV ((b).length : Int))] rfl Try.call20 (.cons (.tmp rfl) (.cons (.tmp rfl) .nil)) (codec_ReadVec_ok hr22) rfl rfl) rfl (lt_b rfl) ?_
          refine GoT.q rfl (QEx.move rfl (.tmp rfl)) rfl (lt_b rfl) ?_
          refine GoT.q rfl (QEx.extract rfl (.tmp rfl) rfl) rfl (lt_b rfl) ?_
          refine GoT.q rfl (QEx.extract rfl (.tmp rfl) rfl) rfl (lt_b rfl) ?_
          refine GoT.q rfl (QEx.extract rfl (.tmp rfl) rfl) rfl (lt_b rfl) ?_
          refine GoT.a rfl (AEx.alZ rfl zt32 rfl rfl) rfl (lt_b rfl) ?_
          refine GoT.s rfl (AEx.sto (Z := (Vec.cells x23)) rfl rfl ts32 (.tmp rfl) rfl (.tmp rfl) rfl rfl (le_b rfl) (congrArg (fun x => (Vec.cells x)) hx23)) rfl ?_
          refine GoT.q rfl (QEx.assign rfl (.tmp rfl)) rfl (lt_b rfl) ?_
          refine GoT.q rfl (QEx.assign rfl (.tmp rfl)) rfl (lt_b rfl) ?_
          refine GoT.nil ?_
          refine let_e h fun x24 hx24 h => ?_
          refine bind_e h fun r25 hr25 h => ?_
          refine let_e h fun x26 hx26 h => ?_
          refine Wp.seq ?_
          refine Wp.region ?_
          refine GoT.qr rfl rfl (QEx.ldP (Vec.cells x23) (Vec.av x23) rfl ag32 ts32 (.tmp rfl) (le_b rfl) rfl) rfl (lt_b rfl) ?_
          refine GoT.qr rfl rfl (QEx.ldP (Vec.cells x3) (Vec.av x3) rfl ag32 ts32 (.tmp rfl) (le_b rfl) rfl) rfl (lt_b rfl) ?_
          refine GoT.q rfl (QEx.eqlA rfl eq32 (.tmp rfl) (.tmp rfl)) rfl (lt_b rfl) ?_
          refine GoT.q rfl (QEx.move rfl (.tmp rfl)) rfl (lt_b rfl) ?_
          refine GoT.g rfl rfl rfl (fun hg => QEx.move rfl (.tmp rfl)) rfl (lt_b rfl) ?_
          refine GoT.g rfl rfl rfl (fun hg => QEx.move rfl (.tmp rfl)) rfl (lt_b rfl) ?_
          refine GoT.g rfl rfl rfl (fun hg => QEx.lenL rfl ⟨_, Try.underlying22⟩ (.opt (.tmp rfl) hg)) rfl (lt_b rfl) ?_
          refine GoT.g rfl rfl rfl (fun hg => QEx.move rfl (.tmp rfl)) rfl (lt_b rfl) ?_
          refine GoT.g rfl rfl rfl (fun hg => QEx.lenL rfl ⟨_, Try.underlying22⟩ (.opt (.tmp rfl) hg)) rfl (lt_b rfl) ?_
          refine GoT.g rfl rfl rfl (fun hg => QEx.subK rfl (.opt (.tmp rfl) hg) (.opt (.tmp rfl) hg)) rfl (lt_b rfl) ?_
          refine GoT.g rfl rfl rfl (fun hg => QEx.eq (QEx.eqlK rfl (.opt (.tmp rfl) hg) (.opt (.tmp rfl) hg)) (congrArg boolAV hx24)) rfl (lt_b rfl) ?_
          refine GoT.q rfl (QEx.pickK rfl (.tmp rfl) (fun hp => (.opt (.tmp rfl) (beq_t hp))) (fun hp => .con)) rfl (lt_b rfl) ?_
          refine GoT.q rfl (QEx.move rfl (.tmp rfl)) rfl (lt_b rfl) ?_
          refine GoT.g rfl rfl rfl (fun hg => QEx.move rfl (.tmp rfl)) rfl (lt_b rfl) ?_
          refine GoT.g rfl rfl rfl (fun hg => QEx.eqlK rfl (.opt (.tmp rfl) hg) .con) rfl (lt_b rfl) ?_
          refine GoT.q rfl (QEx.pickK rfl (.tmp rfl) (fun hp => (.opt (.tmp rfl) (beq_t hp))) (fun hp => .con)) rfl (lt_b rfl) ?_
          refine GoT.q rfl (QEx.move rfl (.tmp rfl)) rfl (lt_b rfl) ?_
          refine GoT.g rfl rfl rfl (fun hg => QEx.cal0 (r := (boolAV r25)) [] rfl Try.call10 .nil (law07_example_ok (gcall hr25 hg)) rfl rfl) rfl (lt_b rfl) ?_
          refine GoT.q rfl (QEx.pickK rfl (.tmp rfl) (fun hp => (.opt (.tmp rfl) (beq_t hp))) (fun hp => .con)) rfl (lt_b rfl) ?_
          refine GoT.q rfl (QEx.eq (QEx.assign rfl (.tmp rfl)) (congrArg boolAV hx26)) rfl (lt_b rfl) ?_
          refine GoT.nil ?_
          refine Wp.ret ?_
          cases h
          exact LeafQ.ret [] (by decide) (.cons (.tmp rfl) .nil) rfl
theorem codec_ReadString_ok {b : List UInt8} {at_1 : Int} {limit : Int} {r : List UInt8 × Int × Int} (h : codec_ReadString b at_1 limit = some r) : FnR Try.prog 22 [((slAV 1 byteAV) b), (iAV at_1), (iAV limit)] (.tup [(strAV r.1), (iAV r.2.1), (iAV r.2.2)]) := by
  refine FnR.intro' (fn := Try.f22) (N := 40) Try.func22 rfl rfl (Nat.le_of_ble_eq_true rfl) [12, 25, 30, 35] ?_
  refine Wp.seq ?_
  refine Wp.region ?_
  refine GoT.q rfl (QEx.as (strAV ([] : List UInt8)) (QEx.assign rfl (.cs ([] : List UInt8) rfl))) rfl (lt_b rfl) ?_
  refine GoT.q rfl (QEx.as (iAV 0) (QEx.assign rfl .con)) rfl (lt_b rfl) ?_
  refine GoT.q rfl (QEx.as (iAV 0) (QEx.assign rfl .con)) rfl (lt_b rfl) ?_
  refine GoT.nil ?_
  refine bind_e h fun r1 hr1 h => ?_
  refine Wp.seq ?_
  refine Wp.region ?_
  refine GoT.q rfl (QEx.move rfl (.tmp rfl)) rfl (lt_b rfl) ?_
  refine GoT.q rfl (QEx.move rfl (.tmp rfl)) rfl (lt_b rfl) ?_
  refine GoT.q rfl (QEx.move rfl (.tmp rfl)) rfl (lt_b rfl) ?_
  refine GoT.q rfl (QEx.cal0 (r := (.tup [(iAV r1.1), (iAV r1.2.1), (iAV r1.2.2)])) [((slAV 1 byteAV) b), (iAV at_1), (iAV limit)] rfl Try.call32 (.cons (.tmp rfl) (.cons (.tmp rfl) (.cons (.tmp rfl) .nil))) (codec_readLength_ok hr1) rfl rfl) rfl (lt_b rfl) ?_
  refine GoT.q rfl (QEx.move rfl (.tmp rfl)) rfl (lt_b rfl) ?_
  refine GoT.q rfl (QEx.extract rfl (.tmp rfl) rfl) rfl (lt_b rfl) ?_
  refine GoT.q rfl (QEx.extract rfl (.tmp rfl) rfl) rfl (lt_b rfl) ?_
  refine GoT.q rfl (QEx.extract rfl (.tmp rfl) rfl) rfl (lt_b rfl) ?_
  refine GoT.q rfl (QEx.assign rfl (.tmp rfl)) rfl (lt_b rfl) ?_
  refine GoT.q rfl (QEx.assign rfl (.tmp rfl)) rfl (lt_b rfl) ?_
  refine GoT.q rfl (QEx.assign rfl (.tmp rfl)) rfl (lt_b rfl) ?_
  refine GoT.nil ?_
  refine Wp.seq ?_
  refine Wp.block ?_
  refine let_e h fun x2 hx2 h => ?_
  refine Wp.seq ?_
  refine Wp.region ?_
  refine GoT.q rfl (QEx.move rfl (.tmp rfl)) rfl (lt_b rfl) ?_
  refine GoT.q rfl (QEx.neqK rfl (.tmp rfl) .con) rfl (lt_b rfl) ?_
  refine GoT.q rfl (QEx.eq (QEx.assign rfl (.tmp rfl)) (congrArg boolAV hx2)) rfl (lt_b rfl) ?_
  refine GoT.nil ?_
  refine Wp.condS h rfl (fun h => ?_) (fun h => ?_)
  · refine Wp.seq ?_
    refine Wp.region ?_
    refine GoT.q rfl (QEx.move rfl (.tmp rfl)) rfl (lt_b rfl) ?_
    refine GoT.q rfl (QEx.as (strAV ([] : List UInt8)) (QEx.assign rfl (.cs ([] : List UInt8) rfl))) rfl (lt_b rfl) ?_
    refine GoT.q rfl (QEx.as (iAV 0) (QEx.assign rfl .con)) rfl (lt_b rfl) ?_
    refine GoT.q rfl (QEx.assign rfl (.tmp rfl)) rfl (lt_b rfl) ?_
    refine GoT.nil ?_
    refine Wp.ret ?_
    cases h
    exact LeafQ.ret [] (by decide) (.cons (.tmp rfl) (.cons (.tmp rfl) (.cons (.tmp rfl) .nil))) rfl
  · refine let_e h fun x3 hx3 h => ?_
    refine Wp.seq ?_
    refine Wp.region ?_
    refine GoT.q rfl (QEx.move rfl (.tmp rfl)) rfl (lt_b rfl) ?_
    refine GoT.q rfl (QEx.move rfl (.tmp rfl)) rfl (lt_b rfl) ?_
    refine GoT.q rfl (QEx.lenL rfl ⟨_, Try.underlying22⟩ (.tmp rfl)) rfl (lt_b rfl) ?_
    refine GoT.q rfl (QEx.move rfl (.tmp rfl)) rfl (lt_b rfl) ?_
    refine GoT.q rfl (QEx.subK rfl (.tmp rfl) (.tmp rfl)) rfl (lt_b rfl) ?_
    refine GoT.q rfl (QEx.gtrK rfl (.tmp rfl) (.tmp rfl)) rfl (lt_b rfl) ?_
    refine GoT.q rfl (QEx.eq (QEx.assign rfl (.tmp rfl)) (congrArg boolAV hx3)) rfl (lt_b rfl) ?_
    refine GoT.nil ?_
    refine Wp.condS h rfl (fun h => ?_) (fun h => ?_)
    · refine Wp.seq ?_
      refine Wp.region ?_
      refine GoT.q rfl (QEx.as (strAV ([] : List UInt8)) (QEx.assign rfl (.cs ([] : List UInt8) rfl))) rfl (lt_b rfl) ?_
      refine GoT.q rfl (QEx.as (iAV 0) (QEx.assign rfl .con)) rfl (lt_b rfl) ?_
      refine GoT.q rfl (QEx.as (iAV 4) (QEx.assign rfl .con)) rfl (lt_b rfl) ?_
      refine GoT.nil ?_
      refine Wp.ret ?_
      cases h
      exact LeafQ.ret [] (by decide) (.cons (.tmp rfl) (.cons (.tmp rfl) (.cons (.tmp rfl) .nil))) rfl
    · refine Wp.skip ?_
      refine chk_e h fun c4 h => ?_
      refine let_e h fun x5 hx5 h => ?_
      refine let_e h fun x6 hx6 h => ?_
      refine Wp.seq ?_
      refine Wp.region ?_
      refine GoT.q rfl (QEx.move rfl (.tmp rfl)) rfl (lt_b rfl) ?_
      refine GoT.q rfl (QEx.move rfl (.tmp rfl)) rfl (lt_b rfl) ?_
      refine GoT.q rfl (QEx.move rfl (.tmp rfl)) rfl (lt_b rfl) ?_
      refine GoT.q rfl (QEx.move rfl (.tmp rfl)) rfl (lt_b rfl) ?_
      refine GoT.q rfl (QEx.addK rfl (.tmp rfl) (.tmp rfl)) rfl (lt_b rfl) ?_
      refine GoT.q rfl (QEx.eq (QEx.slMid rfl et22 (.tmp rfl) (.tmp rfl) (.tmp rfl) c4) (congrArg (slAV 1 byteAV) hx5)) rfl (lt_b rfl) ?_
      refine GoT.q rfl (QEx.strOf rfl Try.underlying22 Try.underlying5 Try.underlying9 (.tmp rfl)) rfl (lt_b rfl) ?_
      refine GoT.q rfl (QEx.move rfl (.tmp rfl)) rfl (lt_b rfl) ?_
      refine GoT.q rfl (QEx.move rfl (.tmp rfl)) rfl (lt_b rfl) ?_
      refine GoT.q rfl (QEx.addK rfl (.tmp rfl) (.tmp rfl)) rfl (lt_b rfl) ?_
      refine GoT.q rfl (QEx.assign rfl (.tmp rfl)) rfl (lt_b rfl) ?_
      refine GoT.q rfl (QEx.eq (QEx.assign rfl (.tmp rfl)) (congrArg iAV hx6)) rfl (lt_b rfl) ?_
      refine GoT.q rfl (QEx.as (iAV 0) (QEx.assign rfl .con)) rfl (lt_b rfl) ?_
      refine GoT.nil ?_
      refine Wp.ret ?_
      cases h
      exact LeafQ.ret [] (by decide) (.cons (.tmp rfl) (.cons (.tmp rfl) (.cons (.tmp rfl) .nil))) rfl
theorem codec_AppendString_ok {b : List UInt8} {s : List UInt8} {r : List UInt8} (h : codec_AppendString b s = some r) : FnR Try.prog 12 [((slAV 1 byteAV) b), (strAV s)] (slT 0 0 1 byteAV r) := by
  refine FnR.intro' (fn := Try.f12) (N := 12) Try.func12 rfl rfl (Nat.le_of_ble_eq_true rfl) [4, 5, 8, 11] ?_
  refine Wp.seq ?_
  refine Wp.region ?_
  refine GoT.q rfl (QEx.as (slT 4 0 1 byteAV ([] : List UInt8)) (QEx.assign rfl (.nil))) rfl (lt_b rfl) ?_
  refine GoT.nil ?_
  refine bind_e h fun r1 hr1 h => ?_
  refine bind_e h fun r2 hr2 h => ?_
  refine Wp.seq ?_
  refine Wp.region ?_
  refine GoT.q rfl (QEx.move rfl (.tmp rfl)) rfl (lt_b rfl) ?_
  refine GoT.q rfl (QEx.move rfl (.tmp rfl)) rfl (lt_b rfl) ?_
  refine GoT.q rfl (QEx.lenStr rfl Try.underlying9 (.tmp rfl)) rfl (lt_b rfl) ?_
  refine GoT.c rfl (QEx.cal (r' := (slT 8 0 1 byteAV r1)) [((slAV 1 byteAV) b), (iAV ((s).length : Int))] rfl Try.call11 (.cons (.tmp rfl) (.cons (.tmp rfl) .nil)) (codec_AppendInt_ok hr1) rfl rfl rfl) rfl rfl (lt_b rfl) ?_
  refine GoT.q rfl (QEx.move rfl (.tmp rfl)) rfl (lt_b rfl) ?_
  refine GoT.q rfl (QEx.bytesOf rfl Try.underlying9 Try.underlying22 Try.underlying5 (.tmp rfl)) rfl (lt_b rfl) ?_
  refine GoT.c rfl (QEx.cal (r' := (slT 11 0 1 byteAV r2)) [((slAV 1 byteAV) r1), ((slAV 1 byteAV) s)] rfl Try.call30 (.cons (.tmp rfl) (.cons (.tmp rfl) .nil)) (codec_extend_ok hr2) rfl rfl rfl) rfl rfl (lt_b rfl) ?_
  refine GoT.q rfl (QEx.assign rfl (.tmp rfl)) rfl (lt_b rfl) ?_
  refine GoT.nil ?_
  refine Wp.ret ?_
  cases h
  exact LeafQ.ret [(11, 0)] (by decide) (.cons (.tmp rfl) .nil) rfl
theorem law07_CodecUnique_ok {b : List UInt8} {at_1 : Int} {r : Bool} (h : law07_CodecUnique b at_1 = some r) : FnR Try.prog 7 [((slAV 1 byteAV) b), (iAV at_1)] (boolAV r) := by
  refine FnR.intro' (fn := Try.f7) (N := 114) Try.func7 rfl rfl (Nat.le_of_ble_eq_true rfl) [9, 10, 15, 29, 34, 36, 40, 42, 48, 62, 67, 69, 73, 75, 81, 83, 95, 100, 102, 103, 106, 108] ?_
  refine Wp.seq ?_
  refine Wp.region ?_
  refine GoT.q rfl (QEx.as (boolAV false) (QEx.assign rfl .con)) rfl (lt_b rfl) ?_
  refine GoT.nil ?_
  refine Wp.seq ?_
  refine let_e h fun r1 hr1 h => ?_
  refine Wp.seq ?_
  refine Wp.region ?_
  refine GoT.q rfl (QEx.move rfl (.tmp rfl)) rfl (lt_b rfl) ?_
  refine GoT.q rfl (QEx.cal0 (r := (boolAV r1)) [((slAV 1 byteAV) b), (strAV ([] : List UInt8)), ((slAV 1 iAV) ([] : List Int))] rfl Try.call9 (.cons (.tmp rfl) (.cons (.cs ([] : List UInt8) rfl) (.cons (.nil (tk := none) (sz := 1)) .nil))) (law07_small_ok hr1) rfl rfl) rfl (lt_b rfl) ?_
  refine GoT.q rfl (QEx.notK rfl (.tmp rfl)) rfl (lt_b rfl) ?_
  refine GoT.nil ?_
  refine Wp.condS h rfl (fun h => ?_) (fun h => ?_)
  · refine bind_e h fun r2 hr2 h => ?_
    refine Wp.seq ?_
    refine Wp.region ?_
    refine GoT.q rfl (QEx.cal0 (r := (boolAV r2)) [] rfl Try.call10 .nil (law07_example_ok hr2) rfl rfl) rfl (lt_b rfl) ?_
    refine GoT.q rfl (QEx.assign rfl (.tmp rfl)) rfl (lt_b rfl) ?_
    refine GoT.nil ?_
    refine Wp.ret ?_
    cases h
    exact LeafQ.ret [] (by decide) (.cons (.tmp rfl) .nil) rfl
  · refine Wp.skip ?_
    refine bind_e h fun r3 hr3 h => ?_
    refine Wp.seq ?_
    refine Wp.region ?_
    refine GoT.q rfl (QEx.move rfl (.tmp rfl)) rfl (lt_b rfl) ?_
    refine GoT.q rfl (QEx.move rfl (.tmp rfl)) rfl (lt_b rfl) ?_
    refine GoT.q rfl (QEx.cal0 (r := (.tup [(iAV r3.1), (iAV r3.2.1), (iAV r3.2.2)])) [((slAV 1 byteAV) b), (iAV at_1)] rfl Try.call16 (.cons (.tmp rfl) (.cons (.tmp rfl) .nil)) (codec_ReadInt_ok hr3) rfl rfl) rfl (lt_b rfl) ?_
    refine GoT.q rfl (QEx.move rfl (.tmp rfl)) rfl (lt_b rfl) ?_
    refine GoT.q rfl (QEx.extract rfl (.tmp rfl) rfl) rfl (lt_b rfl) ?_
    refine GoT.q rfl (QEx.extract rfl (.tmp rfl) rfl) rfl (lt_b rfl) ?_
    refine GoT.q rfl (QEx.extract rfl (.tmp rfl) rfl) rfl (lt_b rfl) ?_
    refine GoT.q rfl (QEx.assign rfl (.tmp rfl)) rfl (lt_b rfl) ?_
    refine GoT.q rfl (QEx.assign rfl (.tmp rfl)) rfl (lt_b rfl) ?_
    refine GoT.q rfl (QEx.assign rfl (.tmp rfl)) rfl (lt_b rfl) ?_
    refine GoT.nil ?_
    refine Wp.seq ?_
    refine chk_e h fun c4 h => ?_
    refine bind_e h fun r5 hr5 h => ?_
    refine chk_e h fun c6 h => ?_
    refine Wp.seq ?_
    refine Wp.drawn2 (n0 := 26) [9, 10, 15, 29, 34, 36, 40, 42, 48, 62, 67, 69, 73, 75, 81, 83, 95, 100, 102, 103, 106, 108] mixed ?_
    refine GoD.q rfl (QEx.move rfl (.tmp rfl)) rfl (lt_b rfl) ?_
    refine GoD.q rfl (QEx.eqlK rfl (.tmp rfl) .con) rfl (lt_b rfl) ?_
    refine GoD.q rfl (QEx.move rfl (.tmp rfl)) rfl (lt_b rfl) ?_
    refine GoD.g rfl rfl rfl (fun hg => QEx.move rfl (.tmp rfl)) rfl (lt_b rfl) ?_
    refine GoD.g rfl rfl rfl (fun hg => QEx.move rfl (.tmp rfl)) rfl (lt_b rfl) ?_
    refine GoD.g rfl rfl rfl (fun hg => QEx.leqK rfl (.opt (.tmp rfl) hg) (.opt (.tmp rfl) hg)) rfl (lt_b rfl) ?_
    refine GoD.g rfl rfl rfl (fun hg => QEx.move rfl (.opt (.tmp rfl) hg)) rfl (lt_b rfl) ?_
    refine GoD.g2 rfl rfl rfl (fun hg => QEx.move rfl (.tmp rfl)) rfl (lt_b rfl) ?_
    refine GoD.g2 rfl rfl rfl (fun hg => QEx.move rfl (.tmp rfl)) rfl (lt_b rfl) ?_
    refine GoD.g2 rfl rfl rfl (fun hg => QEx.lenL rfl ⟨_, Try.underlying22⟩ (.opt (.tmp rfl) hg)) rfl (lt_b rfl) ?_
    refine GoD.g2 rfl rfl rfl (fun hg => QEx.gtrK rfl (.opt (.tmp rfl) hg) (.opt (.tmp rfl) hg)) rfl (lt_b rfl) ?_
    refine GoD.g rfl rfl rfl (fun hg => QEx.pickK rfl (.opt (.tmp rfl) hg) (fun hp => .con) (fun hp => (.opt (.tmp rfl) (and_i hg (beq_f hp))))) rfl (lt_b rfl) ?_
    refine GoD.g rfl rfl rfl (fun hg => QEx.move rfl (.opt (.tmp rfl) hg)) rfl (lt_b rfl) ?_
    refine GoD.g2 rfl rfl rfl (fun hg => QEx.move rfl (.tmp rfl)) rfl (lt_b rfl) ?_
    refine GoD.g2 rfl rfl rfl (fun hg => QEx.move rfl (.tmp rfl)) rfl (lt_b rfl) ?_
    refine GoD.g2 rfl rfl rfl (fun hg => QEx.slTo rfl et22 (.opt (.tmp rfl) hg) (.opt (.tmp rfl) hg) (c4 hg)) rfl (lt_b rfl) ?_
    refine GoD.g2 rfl rfl rfl (fun hg => QEx.move rfl (.tmp rfl)) rfl (lt_b rfl) ?_
    refine GoD.g2 rfl rfl rfl (fun hg => QEx.cal0 (r := ((slAV 1 byteAV) r5)) [((slAV 1 byteAV) (b.take (at_1).toNat)), (iAV r3.1)] rfl Try.call11 (.cons (.opt (.tmp rfl) hg) (.cons (.opt (.tmp rfl) hg) .nil)) (FnR.bare (codec_AppendInt_ok (gcall hr5 hg))) rfl rfl) rfl (lt_b rfl) ?_
    refine GoD.g2 rfl rfl rfl (fun hg => QEx.strOf rfl Try.underlying22 Try.underlying5 Try.underlying9 (.opt (.tmp rfl) hg)) rfl (lt_b rfl) ?_
    refine GoD.g2 rfl rfl rfl (fun hg => QEx.move rfl (.tmp rfl)) rfl (lt_b rfl) ?_
    refine GoD.g2 rfl rfl rfl (fun hg => QEx.move rfl (.tmp rfl)) rfl (lt_b rfl) ?_
    refine GoD.g2 rfl rfl rfl (fun hg => QEx.slTo rfl et22 (.opt (.tmp rfl) hg) (.opt (.tmp rfl) hg) (c6 hg)) rfl (lt_b rfl) ?_
    refine GoD.g2 rfl rfl rfl (fun hg => QEx.strOf rfl Try.underlying22 Try.underlying5 Try.underlying9 (.opt (.tmp rfl) hg)) rfl (lt_b rfl) ?_
    refine GoD.g2 rfl rfl rfl (fun hg => QEx.neqS rfl (.opt (.tmp rfl) hg) (.opt (.tmp rfl) hg)) rfl (lt_b rfl) ?_
    refine GoD.g rfl rfl rfl (fun hg => QEx.pickK rfl (.opt (.tmp rfl) hg) (fun hp => .con) (fun hp => (.opt (.tmp rfl) (and_i hg (beq_f hp))))) rfl (lt_b rfl) ?_
    refine GoD.q rfl (QEx.pickK rfl (.tmp rfl) (fun hp => (.opt (.tmp rfl) (beq_t hp))) (fun hp => .con)) rfl (lt_b rfl) ?_
    refine GoD.nil ⟨by kernel_rfl, by kernel_rfl, by kernel_rfl, by kernel_rfl, by kernel_rfl, ?_⟩
    refine GoT.nil ?_
    refine Wp.condS h rfl (fun h => ?_) (fun h => ?_)
    · refine Wp.seq ?_
      refine Wp.region ?_
      refine GoT.q rfl (QEx.as (boolAV false) (QEx.assign rfl .con)) rfl (lt_b rfl) ?_
      refine GoT.nil ?_
      refine Wp.ret ?_
      cases h
      exact LeafQ.ret [] (by decide) (.cons (.tmp rfl) .nil) rfl
    · refine Wp.skip ?_
      refine bind_e h fun r7 hr7 h => ?_
      refine Wp.seq ?_
      refine Wp.region ?_
      refine GoT.q rfl (QEx.move rfl (.tmp rfl)) rfl (lt_b rfl) ?_
      refine GoT.q rfl (QEx.move rfl (.tmp rfl)) rfl (lt_b rfl) ?_
      refine GoT.q rfl (QEx.cal0 (r := (.tup [(strAV r7.1), (iAV r7.2.1), (iAV r7.2.2)])) [((slAV 1 byteAV) b), (iAV at_1), (iAV 3000)] rfl Try.call22 (.cons (.tmp rfl) (.cons (.tmp rfl) (.cons .con .nil))) (codec_ReadString_ok hr7) rfl rfl) rfl (lt_b rfl) ?_
      refine GoT.q rfl (QEx.move rfl (.tmp rfl)) rfl (lt_b rfl) ?_
      refine GoT.q rfl (QEx.extract rfl (.tmp rfl) rfl) rfl (lt_b rfl) ?_
      refine GoT.q rfl (QEx.extract rfl (.tmp rfl) rfl) rfl (lt_b rfl) ?_
      refine GoT.q rfl (QEx.extract rfl (.tmp rfl) rfl) rfl (lt_b rfl) ?_
      refine GoT.q rfl (QEx.assign rfl (.tmp rfl)) rfl (lt_b rfl) ?_
      refine GoT.q rfl (QEx.assign rfl (.tmp rfl)) rfl (lt_b rfl) ?_
      refine GoT.q rfl (QEx.assign rfl (.tmp rfl)) rfl (lt_b rfl) ?_
      refine GoT.nil ?_
      refine Wp.seq ?_
      refine chk_e h fun c8 h => ?_
      refine bind_e h fun r9 hr9 h => ?_
      refine chk_e h fun c10 h => ?_
      refine Wp.seq ?_
      refine Wp.drawn2 (n0 := 26) [9, 10, 15, 29, 34, 36, 40, 42, 48, 62, 67, 69, 73, 75, 81, 83, 95, 100, 102, 103, 106, 108] mixed ?_
      refine GoD.q rfl (QEx.move rfl (.tmp rfl)) rfl (lt_b rfl) ?_
      refine GoD.q rfl (QEx.eqlK rfl (.tmp rfl) .con) rfl (lt_b rfl) ?_
      refine GoD.q rfl (QEx.move rfl (.tmp rfl)) rfl (lt_b rfl) ?_
      refine GoD.g rfl rfl rfl (fun hg => QEx.move rfl (.tmp rfl)) rfl (lt_b rfl) ?_
      refine GoD.g rfl rfl rfl (fun hg => QEx.move rfl (.tmp rfl)) rfl (lt_b rfl) ?_
      refine GoD.g rfl rfl rfl (fun hg => QEx.leqK rfl (.opt (.tmp rfl) hg) (.opt (.tmp rfl) hg)) rfl (lt_b rfl) ?_
      refine GoD.g rfl rfl rfl (fun hg => QEx.move rfl (.opt (.tmp rfl) hg)) rfl (lt_b rfl) ?_
      refine GoD.g2 rfl rfl rfl (fun hg => QEx.move rfl (.tmp rfl)) rfl (lt_b rfl) ?_
      refine GoD.g2 rfl rfl rfl (fun hg => QEx.move rfl (.tmp rfl)) rfl (lt_b rfl) ?_
      refine GoD.g2 rfl rfl rfl (fun hg => QEx.lenL rfl ⟨_, Try.underlying22⟩ (.opt (.tmp rfl) hg)) rfl (lt_b rfl) ?_
      refine GoD.g2 rfl rfl rfl (fun hg => QEx.gtrK rfl (.opt (.tmp rfl) hg) (.opt (.tmp rfl) hg)) rfl (lt_b rfl) ?_
      refine GoD.g rfl rfl rfl (fun hg => QEx.pickK rfl (.opt (.tmp rfl) hg) (fun hp => .con) (fun hp => (.opt (.tmp rfl) (and_i hg (beq_f hp))))) rfl (lt_b rfl) ?_
      refine GoD.g rfl rfl rfl (fun hg => QEx.move rfl (.opt (.tmp rfl) hg)) rfl (lt_b rfl) ?_
      refine GoD.g2 rfl rfl rfl (fun hg => QEx.move rfl (.tmp rfl)) rfl (lt_b rfl) ?_
      refine GoD.g2 rfl rfl rfl (fun hg => QEx.move rfl (.tmp rfl)) rfl (lt_b rfl) ?_
      refine GoD.g2 rfl rfl rfl (fun hg => QEx.slTo rfl et22 (.opt (.tmp rfl) hg) (.opt (.tmp rfl) hg) (c8 hg)) rfl (lt_b rfl) ?_
      refine GoD.g2 rfl rfl rfl (fun hg => QEx.move rfl (.tmp rfl)) rfl (lt_b rfl) ?_
      refine GoD.g2 rfl rfl rfl (fun hg => QEx.cal0 (r := ((slAV 1 byteAV) r9)) [((slAV 1 byteAV) (b.take (at_1).toNat)), (strAV r7.1)] rfl Try.call12 (.cons (.opt (.tmp rfl) hg) (.cons (.opt (.tmp rfl) hg) .nil)) (FnR.bare (codec_AppendString_ok (gcall hr9 hg))) rfl rfl) rfl (lt_b rfl) ?_
      refine GoD.g2 rfl rfl rfl (fun hg => QEx.strOf rfl Try.underlying22 Try.underlying5 Try.underlying9 (.opt (.tmp rfl) hg)) rfl (lt_b rfl) ?_
      refine GoD.g2 rfl rfl rfl (fun hg => QEx.move rfl (.tmp rfl)) rfl (lt_b rfl) ?_
      refine GoD.g2 rfl rfl rfl (fun hg => QEx.move rfl (.tmp rfl)) rfl (lt_b rfl) ?_
      refine GoD.g2 rfl rfl rfl (fun hg => QEx.slTo rfl et22 (.opt (.tmp rfl) hg) (.opt (.tmp rfl) hg) (c10 hg)) rfl (lt_b rfl) ?_
      refine GoD.g2 rfl rfl rfl (fun hg => QEx.strOf rfl Try.underlying22 Try.underlying5 Try.underlying9 (.opt (.tmp rfl) hg)) rfl (lt_b rfl) ?_
      refine GoD.g2 rfl rfl rfl (fun hg => QEx.neqS rfl (.opt (.tmp rfl) hg) (.opt (.tmp rfl) hg)) rfl (lt_b rfl) ?_
      refine GoD.g rfl rfl rfl (fun hg => QEx.pickK rfl (.opt (.tmp rfl) hg) (fun hp => .con) (fun hp => (.opt (.tmp rfl) (and_i hg (beq_f hp))))) rfl (lt_b rfl) ?_
      refine GoD.q rfl (QEx.pickK rfl (.tmp rfl) (fun hp => (.opt (.tmp rfl) (beq_t hp))) (fun hp => .con)) rfl (lt_b rfl) ?_
      refine GoD.nil ⟨by kernel_rfl, by kernel_rfl, by kernel_rfl, by kernel_rfl, by kernel_rfl, ?_⟩
      refine GoT.nil ?_
      refine Wp.condS h rfl (fun h => ?_) (fun h => ?_)
      · refine Wp.seq ?_
        refine Wp.region ?_
        refine GoT.q rfl (QEx.as (boolAV false) (QEx.assign rfl .con)) rfl (lt_b rfl) ?_
        refine GoT.nil ?_
        refine Wp.ret ?_
        cases h
        exact LeafQ.ret [] (by decide) (.cons (.tmp rfl) .nil) rfl
      · refine Wp.skip ?_
        refine bind_e h fun r11 hr11 h => ?_
        refine Wp.seq ?_
        refine Wp.region ?_
        refine GoT.q rfl (QEx.move rfl (.tmp rfl)) rfl (lt_b rfl) ?_
        refine GoT.q rfl (QEx.move rfl (.tmp rfl)) rfl (lt_b rfl) ?_
        refine GoT.c rfl (QEx.cal (r' := (.tup [(slT 83 0 1 iAV r11.1), (iAV r11.2.1), (iAV r11.2.2)])) [((slAV 1 byteAV) b), (iAV at_1), (iAV 3000)] rfl Try.call25 (.cons (.tmp rfl) (.cons (.tmp rfl) (.cons .con .nil))) (codec_ReadInts_ok hr11) rfl rfl rfl) rfl rfl (lt_b rfl) ?_
        refine GoT.q rfl (QEx.move rfl (.tmp rfl)) rfl (lt_b rfl) ?_
        refine GoT.q rfl (QEx.extract rfl (.tmp rfl) rfl) rfl (lt_b rfl) ?_
        refine GoT.q rfl (QEx.extract rfl (.tmp rfl) rfl) rfl (lt_b rfl) ?_
        refine GoT.q rfl (QEx.extract rfl (.tmp rfl) rfl) rfl (lt_b rfl) ?_
        refine GoT.q rfl (QEx.assign rfl (.tmp rfl)) rfl (lt_b rfl) ?_
        refine GoT.q rfl (QEx.assign rfl (.tmp rfl)) rfl (lt_b rfl) ?_
        refine GoT.q rfl (QEx.assign rfl (.tmp rfl)) rfl (lt_b rfl) ?_
        refine GoT.nil ?_
        refine Wp.seq ?_
        refine chk_e h fun c12 h => ?_
        refine bind_e h fun r13 hr13 h => ?_
        refine chk_e h fun c14 h => ?_
        refine Wp.seq ?_
        refine Wp.drawn2 (n0 := 26) [9, 10, 15, 29, 34, 36, 40, 42, 48, 62, 67, 69, 73, 75, 81, 95, 100, 102, 103, 106, 108] mixed ?_
        refine GoD.q rfl (QEx.move rfl (.tmp rfl)) rfl (lt_b rfl) ?_
        refine GoD.q rfl (QEx.eqlK rfl (.tmp rfl) .con) rfl (lt_b rfl) ?_
        refine GoD.q rfl (QEx.move rfl (.tmp rfl)) rfl (lt_b rfl) ?_
        refine GoD.g rfl rfl rfl (fun hg => QEx.move rfl (.tmp rfl)) rfl (lt_b rfl) ?_
        refine GoD.g rfl rfl rfl (fun hg => QEx.move rfl (.tmp rfl)) rfl (lt_b rfl) ?_
        refine GoD.g rfl rfl rfl (fun hg => QEx.leqK rfl (.opt (.tmp rfl) hg) (.opt (.tmp rfl) hg)) rfl (lt_b rfl) ?_
        refine GoD.g rfl rfl rfl (fun hg => QEx.move rfl (.opt (.tmp rfl) hg)) rfl (lt_b rfl) ?_
        refine GoD.g2 rfl rfl rfl (fun hg => QEx.move rfl (.tmp rfl)) rfl (lt_b rfl) ?_
        refine GoD.g2 rfl rfl rfl (fun hg => QEx.move rfl (.tmp rfl)) rfl (lt_b rfl) ?_
        refine GoD.g2 rfl rfl rfl (fun hg => QEx.lenL rfl ⟨_, Try.underlying22⟩ (.opt (.tmp rfl) hg)) rfl (lt_b rfl) ?_
        refine GoD.g2 rfl rfl rfl (fun hg => QEx.gtrK rfl (.opt (.tmp rfl) hg) (.opt (.tmp rfl) hg)) rfl (lt_b rfl) ?_
        refine GoD.g rfl rfl rfl (fun hg => QEx.pickK rfl (.opt (.tmp rfl) hg) (fun hp => .con) (fun hp => (.opt (.tmp rfl) (and_i hg (beq_f hp))))) rfl (lt_b rfl) ?_
        refine GoD.g rfl rfl rfl (fun hg => QEx.move rfl (.opt (.tmp rfl) hg)) rfl (lt_b rfl) ?_
        refine GoD.g2 rfl rfl rfl (fun hg => QEx.move rfl (.tmp rfl)) rfl (lt_b rfl) ?_
        refine GoD.g2 rfl rfl rfl (fun hg => QEx.move rfl (.tmp rfl)) rfl (lt_b rfl) ?_
        refine GoD.g2 rfl rfl rfl (fun hg => QEx.slTo rfl et22 (.opt (.tmp rfl) hg) (.opt (.tmp rfl) hg) (c12 hg)) rfl (lt_b rfl) ?_
        refine GoD.g2 rfl rfl rfl (fun hg => QEx.move rfl (.tmp rfl)) rfl (lt_b rfl) ?_
        refine GoD.g2 rfl rfl rfl (fun hg => QEx.cal0 (r := ((slAV 1 byteAV) r13)) [((slAV 1 byteAV) (b.take (at_1).toNat)), ((slAV 1 iAV) r11.1)] rfl Try.call14 (.cons (.opt (.tmp rfl) hg) (.cons (.opt (.tmp rfl) hg) .nil)) (FnR.bare (codec_AppendInts_ok (gcall hr13 hg))) rfl rfl) rfl (lt_b rfl) ?_
        refine GoD.g2 rfl rfl rfl (fun hg => QEx.strOf rfl Try.underlying22 Try.underlying5 Try.underlying9 (.opt (.tmp rfl) hg)) rfl (lt_b rfl) ?_
        refine GoD.g2 rfl rfl rfl (fun hg => QEx.move rfl (.tmp rfl)) rfl (lt_b rfl) ?_
        refine GoD.g2 rfl rfl rfl (fun hg => QEx.move rfl (.tmp rfl)) rfl (lt_b rfl) ?_
        refine GoD.g2 rfl rfl rfl (fun hg => QEx.slTo rfl et22 (.opt (.tmp rfl) hg) (.opt (.tmp rfl) hg) (c14 hg)) rfl (lt_b rfl) ?_
        refine GoD.g2 rfl rfl rfl (fun hg => QEx.strOf rfl Try.underlying22 Try.underlying5 Try.underlying9 (.opt (.tmp rfl) hg)) rfl (lt_b rfl) ?_
        refine GoD.g2 rfl rfl rfl (fun hg => QEx.neqS rfl (.opt (.tmp rfl) hg) (.opt (.tmp rfl) hg)) rfl (lt_b rfl) ?_
        refine GoD.g rfl rfl rfl (fun hg => QEx.pickK rfl (.opt (.tmp rfl) hg) (fun hp => .con) (fun hp => (.opt (.tmp rfl) (and_i hg (beq_f hp))))) rfl (lt_b rfl) ?_
        refine GoD.q rfl (QEx.pickK rfl (.tmp rfl) (fun hp => (.opt (.tmp rfl) (beq_t hp))) (fun hp => .con)) rfl (lt_b rfl) ?_
        refine GoD.nil ⟨by kernel_rfl, by kernel_rfl, by kernel_rfl, by kernel_rfl, by kernel_rfl, ?_⟩
        refine GoT.nil ?_
        refine Wp.condS h rfl (fun h => ?_) (fun h => ?_)
        · refine Wp.seq ?_
          refine Wp.region ?_
          refine GoT.q rfl (QEx.as (boolAV false) (QEx.assign rfl .con)) rfl (lt_b rfl) ?_
          refine GoT.nil ?_
          refine Wp.ret ?_
          cases h
          exact LeafQ.ret [] (by decide) (.cons (.tmp rfl) .nil) rfl
        · refine Wp.skip ?_
          refine bind_e h fun r15 hr15 h => ?_
          refine Wp.seq ?_
          refine Wp.region ?_
          refine GoT.q rfl (QEx.cal0 (r := (boolAV r15)) [] rfl Try.call10 .nil (law07_example_ok hr15) rfl rfl) rfl (lt_b rfl) ?_
          refine GoT.q rfl (QEx.assign rfl (.tmp rfl)) rfl (lt_b rfl) ?_
          refine GoT.nil ?_
          refine Wp.ret ?_
          cases h
          exact LeafQ.ret [] (by decide) (.cons (.tmp rfl) .nil) rfl
theorem ref07_length_ok {b : List UInt8} {at_1 : Int} {most : Int} {r : Int × Int × Int} (h : ref07_length b at_1 most = some r) : FnR Try.prog 33 [((slAV 1 byteAV) b), (iAV at_1), (iAV most)] (.tup [(iAV r.1), (iAV r.2.1), (iAV r.2.2)]) := by
  refine FnR.intro' (fn := Try.f33) (N := 30) Try.func33 rfl rfl (Nat.le_of_ble_eq_true rfl) [13] ?_
  refine Wp.seq ?_
  refine Wp.region ?_
  refine GoT.q rfl (QEx.as (iAV 0) (QEx.assign rfl .con)) rfl (lt_b rfl) ?_
  refine GoT.q rfl (QEx.as (iAV 0) (QEx.assign rfl .con)) rfl (lt_b rfl) ?_
  refine GoT.q rfl (QEx.as (iAV 0) (QEx.assign rfl .con)) rfl (lt_b rfl) ?_
  refine GoT.nil ?_
  refine bind_e h fun r1 hr1 h => ?_
  refine Wp.seq ?_
  refine Wp.region ?_
  refine GoT.q rfl (QEx.move rfl (.tmp rfl)) rfl (lt_b rfl) ?_
  refine GoT.q rfl (QEx.move rfl (.tmp rfl)) rfl (lt_b rfl) ?_
  refine GoT.q rfl (QEx.cal0 (r := (.tup [(iAV r1.1), (iAV r1.2.1), (iAV r1.2.2)])) [((slAV 1 byteAV) b), (iAV at_1)] rfl Try.call17 (.cons (.tmp rfl) (.cons (.tmp rfl) .nil)) (ref07_ReadInt_ok hr1) rfl rfl) rfl (lt_b rfl) ?_
  refine GoT.q rfl (QEx.move rfl (.tmp rfl)) rfl (lt_b rfl) ?_
  refine GoT.q rfl (QEx.extract rfl (.tmp rfl) rfl) rfl (lt_b rfl) ?_
  refine GoT.q rfl (QEx.extract rfl (.tmp rfl) rfl) rfl (lt_b rfl) ?_
  refine GoT.q rfl (QEx.extract rfl (.tmp rfl) rfl) rfl (lt_b rfl) ?_
  refine GoT.q rfl (QEx.assign rfl (.tmp rfl)) rfl (lt_b rfl) ?_
  refine GoT.q rfl (QEx.assign rfl (.tmp rfl)) rfl (lt_b rfl) ?_
  refine GoT.q rfl (QEx.assign rfl (.tmp rfl)) rfl (lt_b rfl) ?_
  refine GoT.nil ?_
  refine Wp.seq ?_
  refine Wp.seq ?_
  refine Wp.region ?_
  refine GoT.q rfl (QEx.move rfl (.tmp rfl)) rfl (lt_b rfl) ?_
  refine GoT.q rfl (QEx.neqK rfl (.tmp rfl) .con) rfl (lt_b rfl) ?_
  refine GoT.nil ?_
  refine Wp.condS h rfl (fun h => ?_) (fun h => ?_)
  · refine Wp.seq ?_
    refine Wp.region ?_
    refine GoT.q rfl (QEx.move rfl (.tmp rfl)) rfl (lt_b rfl) ?_
    refine GoT.q rfl (QEx.as (iAV 0) (QEx.assign rfl .con)) rfl (lt_b rfl) ?_
    refine GoT.q rfl (QEx.as (iAV 0) (QEx.assign rfl .con)) rfl (lt_b rfl) ?_
    refine GoT.q rfl (QEx.assign rfl (.tmp rfl)) rfl (lt_b rfl) ?_
    refine GoT.nil ?_
    refine Wp.ret ?_
    cases h
    exact LeafQ.ret [] (by decide) (.cons (.tmp rfl) (.cons (.tmp rfl) (.cons (.tmp rfl) .nil))) rfl
  · refine Wp.skip ?_
    refine Wp.seq ?_
    refine Wp.seq ?_
    refine Wp.region ?_
    refine GoT.q rfl (QEx.move rfl (.tmp rfl)) rfl (lt_b rfl) ?_
    refine GoT.q rfl (QEx.lssK rfl (.tmp rfl) .con) rfl (lt_b rfl) ?_
    refine GoT.nil ?_
    refine Wp.condS h rfl (fun h => ?_) (fun h => ?_)
    · refine Wp.seq ?_
      refine Wp.region ?_
      refine GoT.q rfl (QEx.as (iAV 0) (QEx.assign rfl .con)) rfl (lt_b rfl) ?_
      refine GoT.q rfl (QEx.as (iAV 0) (QEx.assign rfl .con)) rfl (lt_b rfl) ?_
      refine GoT.q rfl (QEx.as (iAV 3) (QEx.assign rfl .con)) rfl (lt_b rfl) ?_
      refine GoT.nil ?_
      refine Wp.ret ?_
      cases h
      exact LeafQ.ret [] (by decide) (.cons (.tmp rfl) (.cons (.tmp rfl) (.cons (.tmp rfl) .nil))) rfl
    · refine Wp.skip ?_
      refine Wp.seq ?_
      refine Wp.seq ?_
      refine Wp.region ?_
      refine GoT.q rfl (QEx.move rfl (.tmp rfl)) rfl (lt_b rfl) ?_
      refine GoT.q rfl (QEx.move rfl (.tmp rfl)) rfl (lt_b rfl) ?_
      refine GoT.q rfl (QEx.maxK rfl (.tmp rfl) .con) rfl (lt_b rfl) ?_
      refine GoT.q rfl (QEx.gtrK rfl (.tmp rfl) (.tmp rfl)) rfl (lt_b rfl) ?_
      refine GoT.nil ?_
      refine Wp.condS h rfl (fun h => ?_) (fun h => ?_)
      · refine Wp.seq ?_
        refine Wp.region ?_
        refine GoT.q rfl (QEx.as (iAV 0) (QEx.assign rfl .con)) rfl (lt_b rfl) ?_
        refine GoT.q rfl (QEx.as (iAV 0) (QEx.assign rfl .con)) rfl (lt_b rfl) ?_
        refine GoT.q rfl (QEx.as (iAV 5) (QEx.assign rfl .con)) rfl (lt_b rfl) ?_
        refine GoT.nil ?_
        refine Wp.ret ?_
        cases h
        exact LeafQ.ret [] (by decide) (.cons (.tmp rfl) (.cons (.tmp rfl) (.cons (.tmp rfl) .nil))) rfl
      · refine Wp.skip ?_
        refine Wp.seq ?_
        refine Wp.region ?_
        refine GoT.q rfl (QEx.move rfl (.tmp rfl)) rfl (lt_b rfl) ?_
        refine GoT.q rfl (QEx.move rfl (.tmp rfl)) rfl (lt_b rfl) ?_
        refine GoT.q rfl (QEx.assign rfl (.tmp rfl)) rfl (lt_b rfl) ?_
        refine GoT.q rfl (QEx.assign rfl (.tmp rfl)) rfl (lt_b rfl) ?_
        refine GoT.q rfl (QEx.as (iAV 0) (QEx.assign rfl .con)) rfl (lt_b rfl) ?_
        refine GoT.nil ?_
        refine Wp.ret ?_
        cases h
        exact LeafQ.ret [] (by decide) (.cons (.tmp rfl) (.cons (.tmp rfl) (.cons (.tmp rfl) .nil))) rfl
theorem ref07_ReadInts_ok {b : List UInt8} {at_1 : Int} {most : Int} {r : List Int × Int × Int} (h : ref07_ReadInts b at_1 most = some r) : FnR Try.prog 26 [((slAV 1 byteAV) b), (iAV at_1), (iAV most)] (.tup [(slT 0 0 1 iAV r.1), (iAV r.2.1), (iAV r.2.2)]) := by
  refine FnR.intro' (fn := Try.f26) (N := 50) Try.func26 rfl rfl (Nat.le_of_ble_eq_true rfl) [6, 12, 18, 34, 43, 45, 46, 48] ?_
  refine Wp.seq ?_
  refine Wp.region ?_
  refine GoT.q rfl (QEx.as (slT 6 0 1 iAV ([] : List Int)) (QEx.assign rfl (.nil))) rfl (lt_b rfl) ?_
  refine GoT.q rfl (QEx.as (iAV 0) (QEx.assign rfl .con)) rfl (lt_b rfl) ?_
  refine GoT.q rfl (QEx.as (iAV 0) (QEx.assign rfl .con)) rfl (lt_b rfl) ?_
  refine GoT.nil ?_
  refine bind_e h fun r1 hr1 h => ?_
  refine Wp.seq ?_
  refine Wp.region ?_
  refine GoT.q rfl (QEx.move rfl (.tmp rfl)) rfl (lt_b rfl) ?_
  refine GoT.q rfl (QEx.move rfl (.tmp rfl)) rfl (lt_b rfl) ?_
  refine GoT.q rfl (QEx.move rfl (.tmp rfl)) rfl (lt_b rfl) ?_
  refine GoT.q rfl (QEx.cal0 (r := (.tup [(iAV r1.1), (iAV r1.2.1), (iAV r1.2.2)])) [((slAV 1 byteAV) b), (iAV at_1), (iAV most)] rfl Try.call33 (.cons (.tmp rfl) (.cons (.tmp rfl) (.cons (.tmp rfl) .nil))) (ref07_length_ok hr1) rfl rfl) rfl (lt_b rfl) ?_
  refine GoT.q rfl (QEx.move rfl (.tmp rfl)) rfl (lt_b rfl) ?_
  refine GoT.q rfl (QEx.extract rfl (.tmp rfl) rfl) rfl (lt_b rfl) ?_
  refine GoT.q rfl (QEx.extract rfl (.tmp rfl) rfl) rfl (lt_b rfl) ?_
  refine GoT.q rfl (QEx.extract rfl (.tmp rfl) rfl) rfl (lt_b rfl) ?_
  refine GoT.q rfl (QEx.assign rfl (.tmp rfl)) rfl (lt_b rfl) ?_
  refine GoT.q rfl (QEx.assign rfl (.tmp rfl)) rfl (lt_b rfl) ?_
  refine GoT.q rfl (QEx.assign rfl (.tmp rfl)) rfl (lt_b rfl) ?_
  refine GoT.nil ?_
  refine Wp.seq ?_
  refine Wp.seq ?_
  refine Wp.region ?_
  refine GoT.q rfl (QEx.move rfl (.tmp rfl)) rfl (lt_b rfl) ?_
  refine GoT.q rfl (QEx.neqK rfl (.tmp rfl) .con) rfl (lt_b rfl) ?_
  refine GoT.nil ?_
  refine Wp.condS h rfl (fun h => ?_) (fun h => ?_)
  · refine Wp.seq ?_
    refine Wp.region ?_
    refine GoT.q rfl (QEx.move rfl (.tmp rfl)) rfl (lt_b rfl) ?_
    refine GoT.q rfl (QEx.as (slT 6 0 1 iAV ([] : List Int)) (QEx.assign rfl (.nil))) rfl (lt_b rfl) ?_
    refine GoT.q rfl (QEx.as (iAV 0) (QEx.assign rfl .con)) rfl (lt_b rfl) ?_
    refine GoT.q rfl (QEx.assign rfl (.tmp rfl)) rfl (lt_b rfl) ?_
    refine GoT.nil ?_
    refine Wp.ret ?_
    cases h
    exact LeafQ.ret [(6, 0)] (by decide) (.cons (.tmp rfl) (.cons (.tmp rfl) (.cons (.tmp rfl) .nil))) rfl
  · refine Wp.skip ?_
    refine Wp.seq ?_
    refine Wp.region ?_
    refine GoT.q rfl (QEx.as (slT 12 0 1 iAV ([] : List Int)) (QEx.assign rfl (.nil))) rfl (lt_b rfl) ?_
    refine GoT.nil ?_
    refine Wp.join2 (fun v2 v3 => ⟨[(10, (iAV v2)), (12, (slT 12 0 1 iAV v3))], [], [6, 18, 34, 43, 45, 46, 48]⟩) (fun v2 v3 => ref07_ReadInts_j2 v2 v3 = some r) ?_ ?_
    · intro v2 v3 h
      refine Wp.seq ?_
      refine Wp.region ?_
      refine GoT.q rfl (QEx.move rfl (.tmp rfl)) rfl (lt_b rfl) ?_
      refine GoT.q rfl (QEx.move rfl (.tmp rfl)) rfl (lt_b rfl) ?_
      refine GoT.q rfl (QEx.assign rfl (.tmp rfl)) rfl (lt_b rfl) ?_
      refine GoT.q rfl (QEx.assign rfl (.tmp rfl)) rfl (lt_b rfl) ?_
      refine GoT.q rfl (QEx.as (iAV 0) (QEx.assign rfl .con)) rfl (lt_b rfl) ?_
      refine GoT.nil ?_
      refine Wp.ret ?_
      cases h
      exact LeafQ.ret [(12, 0)] (by decide) (.cons (.tmp rfl) (.cons (.tmp rfl) (.cons (.tmp rfl) .nil))) rfl
    · refine Wp.seq ?_
      refine Wp.region ?_
      refine GoT.q rfl (QEx.as (iAV 0) (QEx.assign rfl .con)) rfl (lt_b rfl) ?_
      refine GoT.nil ?_
      refine Wp.block ?_
      refine Wp.loop3 (fun v4 v5 v6 => ⟨[(0, ((slAV 1 byteAV) b)), (9, (iAV r1.1)), (10, (iAV v4)), (12, (slT 12 0 1 iAV v5)), (13, (iAV v6))], [], [6, 18, 34, 43, 45, 46, 48]⟩) (fun n v4 v5 v6 => ref07_ReadInts_l1 b r1 ref07_ReadInts_j2 n v4 v5 v6 = some r) fuel r1.2.1 ([] : List Int) 0 [] [] h (LS.to.mk (.b rfl rfl (.b rfl rfl (.b rfl rfl (.r rfl rfl (.b rfl rfl .n))))) .n rfl) ?_
      rintro (_ | n2) v4 v5 v6 h
      · exact none_e h
      rw [ref07_ReadInts_l1] at h
      refine Wp.seq ?_
      refine Wp.seq ?_
      refine Wp.region ?_
      refine GoT.q rfl (QEx.move rfl (.tmp rfl)) rfl (lt_b rfl) ?_
      refine GoT.q rfl (QEx.move rfl (.tmp rfl)) rfl (lt_b rfl) ?_
      refine GoT.q rfl (QEx.lssK rfl (.tmp rfl) (.tmp rfl)) rfl (lt_b rfl) ?_
      refine GoT.nil ?_
      refine Wp.condS h rfl (fun h => ?_) (fun h => ?_)
      · refine Wp.skip ?_
        refine Wp.seq ?_
        refine Wp.block ?_
        refine bind_e h fun r7 hr7 h => ?_
        refine Wp.seq ?_
        refine Wp.region ?_
        refine GoT.q rfl (QEx.move rfl (.tmp rfl)) rfl (lt_b rfl) ?_
        refine GoT.q rfl (QEx.move rfl (.tmp rfl)) rfl (lt_b rfl) ?_
        refine GoT.q rfl (QEx.cal0 (r := (.tup [(iAV r7.1), (iAV r7.2.1), (iAV r7.2.2)])) [((slAV 1 byteAV) b), (iAV v4)] rfl Try.call17 (.cons (.tmp rfl) (.cons (.tmp rfl) .nil)) (ref07_ReadInt_ok hr7) rfl rfl) rfl (lt_b rfl) ?_
        refine GoT.q rfl (QEx.move rfl (.tmp rfl)) rfl (lt_b rfl) ?_
        refine GoT.q rfl (QEx.extract rfl (.tmp rfl) rfl) rfl (lt_b rfl) ?_
        refine GoT.q rfl (QEx.extract rfl (.tmp rfl) rfl) rfl (lt_b rfl) ?_
        refine GoT.q rfl (QEx.extract rfl (.tmp rfl) rfl) rfl (lt_b rfl) ?_
        refine GoT.q rfl (QEx.assign rfl (.tmp rfl)) rfl (lt_b rfl) ?_
        refine GoT.q rfl (QEx.assign rfl (.tmp rfl)) rfl (lt_b rfl) ?_
        refine GoT.q rfl (QEx.assign rfl (.tmp rfl)) rfl (lt_b rfl) ?_
        refine GoT.nil ?_
        refine Wp.seq ?_
        refine Wp.seq ?_
        refine Wp.region ?_
        refine GoT.q rfl (QEx.move rfl (.tmp rfl)) rfl (lt_b rfl) ?_
        refine GoT.q rfl (QEx.neqK rfl (.tmp rfl) .con) rfl (lt_b rfl) ?_
        refine GoT.nil ?_
        refine Wp.condS h rfl (fun h => ?_) (fun h => ?_)
        · refine Wp.seq ?_
          refine Wp.region ?_
          refine GoT.q rfl (QEx.move rfl (.tmp rfl)) rfl (lt_b rfl) ?_
          refine GoT.q rfl (QEx.as (slT 6 0 1 iAV ([] : List Int)) (QEx.assign rfl (.nil))) rfl (lt_b rfl) ?_
          refine GoT.q rfl (QEx.as (iAV 0) (QEx.assign rfl .con)) rfl (lt_b rfl) ?_
          refine GoT.q rfl (QEx.assign rfl (.tmp rfl)) rfl (lt_b rfl) ?_
          refine GoT.nil ?_
          refine Wp.ret ?_
          cases h
          exact LeafQ.ret [(6, 0)] (by decide) (.cons (.tmp rfl) (.cons (.tmp rfl) (.cons (.tmp rfl) .nil))) rfl
        · refine Wp.skip ?_
          refine chk_e h fun c8 h => ?_
          refine let_e h fun x9 hx9 h => ?_
          refine Wp.seq ?_
          refine Wp.region ?_
          refine GoT.q rfl (QEx.move rfl (.tmp rfl)) rfl (lt_b rfl) ?_
          refine GoT.q rfl (QEx.move rfl (.tmp rfl)) rfl (lt_b rfl) ?_
          refine GoT.q rfl (QEx.as (slT 45 0 1 iAV ([r7.1] : List Int)) (QEx.buildSlice rfl et53 (.cons (.tmp rfl) rfl rfl rfl .nil) rfl (by decide))) rfl (lt_b rfl) ?_
          refine GoT.a rfl (AEx.appL (E := iAV) rfl et53 (.tmp rfl) (.tmp rfl) rfl c8 rfl rfl hx9 (by decide)) rfl (lt_b rfl) ?_
          refine GoT.q rfl (QEx.assign rfl (.tmp rfl)) rfl (lt_b rfl) ?_
          refine GoT.nil ?_
          refine Wp.region ?_
          refine GoT.q rfl (QEx.move rfl (.tmp rfl)) rfl (lt_b rfl) ?_
          refine GoT.q rfl (QEx.assign rfl (.tmp rfl)) rfl (lt_b rfl) ?_
          refine GoT.nil ?_
          refine let_e h fun x10 hx10 h => ?_
          refine Wp.region ?_
          refine GoT.q rfl (QEx.move rfl (.tmp rfl)) rfl (lt_b rfl) ?_
          refine GoT.q rfl (QEx.addK rfl (.tmp rfl) .con) rfl (lt_b rfl) ?_
          refine GoT.q rfl (QEx.eq (QEx.assign rfl (.tmp rfl)) (congrArg iAV hx10)) rfl (lt_b rfl) ?_
          refine GoT.nil ?_
          exact Round3.mk r7.2.1 x9 x10 [] [(46, 12)] h (LS.to.mk (.b rfl rfl (.b rfl rfl (.b rfl rfl (.r rfl rfl (.b rfl rfl .n))))) .n rfl)
      · refine Wp.exit ?_
        exact Joined2.mk v4 v5 [] [] h (LS.to.mk (.b rfl rfl (.r rfl rfl .n)) .n rfl)
theorem ref07_abs_ok {n_0 : Int} {r : Int} (h : ref07_abs n_0 = r) : FnR Try.prog 35 [(iAV n_0)] ((kAV .u64) r) := by
  refine FnR.intro' (fn := Try.f35) (N := 12) Try.func35 rfl rfl (Nat.le_of_ble_eq_true rfl) [] ?_
  refine Wp.seq ?_
  refine Wp.region ?_
  refine GoT.q rfl (QEx.as ((kAV .u64) 0) (QEx.assign rfl .con)) rfl (lt_b rfl) ?_
  refine GoT.nil ?_
  refine Wp.seq ?_
  refine Wp.seq ?_
  refine Wp.region ?_
  refine GoT.q rfl (QEx.move rfl (.tmp rfl)) rfl (lt_b rfl) ?_
  refine GoT.q rfl (QEx.lssK rfl (.tmp rfl) .con) rfl (lt_b rfl) ?_
  refine GoT.nil ?_
  refine Wp.condS h rfl (fun h => ?_) (fun h => ?_)
  · refine let_e h fun x1 hx1 h => ?_
    refine Wp.seq ?_
    refine Wp.region ?_
    refine GoT.q rfl (QEx.move rfl (.tmp rfl)) rfl (lt_b rfl) ?_
    refine GoT.q rfl (QEx.addK rfl (.tmp rfl) .con) rfl (lt_b rfl) ?_
    refine GoT.q rfl (QEx.negK rfl (.tmp rfl)) rfl (lt_b rfl) ?_
    refine GoT.q rfl (QEx.cvKK rfl Try.underlying62 (by rw [Try.underlying3]; rfl) (.tmp rfl)) rfl (lt_b rfl) ?_
    refine GoT.q rfl (QEx.eq (QEx.addK rfl (.tmp rfl) .con) (congrArg (kAV .u64) hx1)) rfl (lt_b rfl) ?_
    refine GoT.q rfl (QEx.assign rfl (.tmp rfl)) rfl (lt_b rfl) ?_
    refine GoT.nil ?_
    refine Wp.ret ?_
    cases h
    exact LeafQ.ret [] (by decide) (.cons (.tmp rfl) .nil) rfl
  · refine Wp.skip ?_
    refine let_e h fun x2 hx2 h => ?_
    refine Wp.seq ?_
    refine Wp.region ?_
    refine GoT.q rfl (QEx.move rfl (.tmp rfl)) rfl (lt_b rfl) ?_
    refine GoT.q rfl (QEx.cvKK rfl Try.underlying62 (by rw [Try.underlying3]; rfl) (.tmp rfl)) rfl (lt_b rfl) ?_
    refine GoT.q rfl (QEx.eq (QEx.assign rfl (.tmp rfl)) (congrArg (kAV .u64) hx2)) rfl (lt_b rfl) ?_
    refine GoT.nil ?_
    refine Wp.ret ?_
    cases h
    exact LeafQ.ret [] (by decide) (.cons (.tmp rfl) .nil) rfl
theorem ref07_AppendInt_ok {b : List UInt8} {n_1 : Int} {r : List UInt8} (h : ref07_AppendInt b n_1 = some r) : FnR Try.prog 34 [((slAV 1 byteAV) b), (iAV n_1)] (slT 0 0 1 byteAV r) := by
  refine FnR.intro' (fn := Try.f34) (N := 37) Try.func34 rfl rfl (Nat.le_of_ble_eq_true rfl) [4, 5, 8, 18, 19, 20, 21, 28, 29, 30, 31, 33, 34, 35, 36] ?_
  refine Wp.seq ?_
  refine Wp.region ?_
  refine GoT.q rfl (QEx.as (slT 4 0 1 byteAV ([] : List UInt8)) (QEx.assign rfl (.nil))) rfl (lt_b rfl) ?_
  refine GoT.nil ?_
  refine Wp.seq ?_
  refine Wp.region ?_
  refine GoT.q rfl (QEx.as (slT 5 0 1 byteAV ([] : List UInt8)) (QEx.assign rfl (.nil))) rfl (lt_b rfl) ?_
  refine GoT.nil ?_
  refine Wp.join1 (fun v1 => ⟨[(0, ((slAV 1 byteAV) b)), (1, (iAV n_1)), (5, (slT 5 0 1 byteAV v1))], [], [4, 8, 18, 19, 20, 21, 28, 29, 30, 31, 33, 34, 35, 36]⟩) (fun v1 => (ref07_AppendInt_j3 b n_1) v1 = some r) ?_ ?_
  · intro v1 h
    refine let_e h fun x8 hx8 h => ?_
    refine Wp.seq ?_
    refine Wp.region ?_
    refine GoT.q rfl (QEx.move rfl (.tmp rfl)) rfl (lt_b rfl) ?_
    refine GoT.q rfl (QEx.lenL rfl ⟨_, Try.underlying22⟩ (.tmp rfl)) rfl (lt_b rfl) ?_
    refine GoT.q rfl (QEx.cvKC rfl Try.underlying5 (by rw [Try.underlying3]; rfl) (.tmp rfl)) rfl (lt_b rfl) ?_
    refine GoT.q rfl (QEx.eq (QEx.assign rfl (.tmp rfl)) (congrArg byteAV hx8)) rfl (lt_b rfl) ?_
    refine GoT.nil ?_
    refine Wp.join1 (fun v9 => ⟨[(0, ((slAV 1 byteAV) b)), (5, (slT 5 0 1 byteAV v1)), (7, (byteAV v9))], [], [4, 8, 18, 19, 20, 21, 28, 29, 30, 31, 33, 34, 35, 36]⟩) (fun v9 => (ref07_AppendInt_j2 b v1) v9 = some r) ?_ ?_
    · intro v9 h
      refine chk_e h fun c11 h => ?_
      refine let_e h fun x12 hx12 h => ?_
      refine Wp.seq ?_
      refine Wp.region ?_
      refine GoT.q rfl (QEx.as (slT 28 0 1 byteAV ([] : List UInt8)) (QEx.buildSlice rfl et22 .nil rfl (by decide))) rfl (lt_b rfl) ?_
      refine GoT.q rfl (QEx.move rfl (.tmp rfl)) rfl (lt_b rfl) ?_
      refine GoT.a rfl (AEx.appL (E := byteAV) rfl et22 (.tmp rfl) (.tmp rfl) rfl c11 rfl rfl hx12 (by decide)) rfl (lt_b rfl) ?_
      refine GoT.q rfl (QEx.assign rfl (.tmp rfl)) rfl (lt_b rfl) ?_
      refine GoT.nil ?_
      refine chk_e h fun c13 h => ?_
      refine let_e h fun x14 hx14 h => ?_
      refine chk_e h fun c15 h => ?_
      refine let_e h fun x16 hx16 h => ?_
      refine Wp.seq ?_
      refine Wp.region ?_
      refine GoT.q rfl (QEx.move rfl (.tmp rfl)) rfl (lt_b rfl) ?_
      refine GoT.q rfl (QEx.move rfl (.tmp rfl)) rfl (lt_b rfl) ?_
      refine GoT.q rfl (QEx.as (slT 33 0 1 byteAV ([v9] : List UInt8)) (QEx.buildSlice rfl et22 (.cons (.tmp rfl) rfl rfl rfl .nil) rfl (by decide))) rfl (lt_b rfl) ?_
      refine GoT.a rfl (AEx.appL (E := byteAV) rfl et22 (.tmp rfl) (.tmp rfl) rfl c13 rfl rfl hx14 (by decide)) rfl (lt_b rfl) ?_
      refine GoT.q rfl (QEx.move rfl (.tmp rfl)) rfl (lt_b rfl) ?_
      refine GoT.a rfl (AEx.appL (E := byteAV) rfl et22 (.tmp rfl) (.tmp rfl) rfl c15 rfl rfl hx16 (by decide)) rfl (lt_b rfl) ?_
      refine GoT.q rfl (QEx.assign rfl (.tmp rfl)) rfl (lt_b rfl) ?_
      refine GoT.nil ?_
      refine Wp.ret ?_
      cases h
      exact LeafQ.ret [(36, 0)] (by decide) (.cons (.tmp rfl) .nil) rfl
    · refine Wp.seq ?_
      refine Wp.region ?_
      refine GoT.q rfl (QEx.move rfl (.tmp rfl)) rfl (lt_b rfl) ?_
      refine GoT.q rfl (QEx.lssK rfl (.tmp rfl) .con) rfl (lt_b rfl) ?_
      refine GoT.nil ?_
      refine Wp.condS h rfl (fun h => ?_) (fun h => ?_)
      · refine let_e h fun x10 hx10 h => ?_
        refine Wp.region ?_
        refine GoT.q rfl (QEx.move rfl (.tmp rfl)) rfl (lt_b rfl) ?_
        refine GoT.q rfl (QEx.addC rfl (.tmp rfl) (.cb 16 rfl)) rfl (lt_b rfl) ?_
        refine GoT.q rfl (QEx.eq (QEx.assign rfl (.tmp rfl)) (congrArg byteAV hx10)) rfl (lt_b rfl) ?_
        refine GoT.nil ?_
        exact Joined1.mk x10 [] [] h (LS.to.mk (.b rfl rfl (.r rfl rfl (.b rfl rfl .n))) .n rfl)
      · refine Wp.skip ?_
        exact Joined1.mk x8 [] [] h (LS.to.mk (.b rfl rfl (.r rfl rfl (.b rfl rfl .n))) .n rfl)
  · refine let_e h fun r2 hr2 h => ?_
    refine Wp.seq ?_
    refine Wp.region ?_
    refine GoT.q rfl (QEx.move rfl (.tmp rfl)) rfl (lt_b rfl) ?_
    refine GoT.q rfl (QEx.cal0 (r := ((kAV .u64) r2)) [(iAV n_1)] rfl Try.call35 (.cons (.tmp rfl) .nil) (ref07_abs_ok hr2) rfl rfl) rfl (lt_b rfl) ?_
    refine GoT.q rfl (QEx.assign rfl (.tmp rfl)) rfl (lt_b rfl) ?_
    refine GoT.nil ?_
    refine Wp.block ?_
    refine Wp.loop2 (fun v3 v4 => ⟨[(0, ((slAV 1 byteAV) b)), (1, (iAV n_1)), (5, (slT 5 0 1 byteAV v3)), (6, ((kAV .u64) v4))], [], [4, 8, 18, 19, 20, 21, 28, 29, 30, 31, 33, 34, 35, 36]⟩) (fun n v3 v4 => ref07_AppendInt_l1 (ref07_AppendInt_j3 b n_1) n v3 v4 = some r) fuel ([] : List UInt8) r2 [] [] h (LS.to.mk (.b rfl rfl (.b rfl rfl (.r rfl rfl (.b rfl rfl .n)))) .n rfl) ?_
    rintro (_ | n2) v3 v4 h
    · exact none_e h
    rw [ref07_AppendInt_l1] at h
    refine Wp.seq ?_
    refine Wp.seq ?_
    refine Wp.region ?_
    refine GoT.q rfl (QEx.move rfl (.tmp rfl)) rfl (lt_b rfl) ?_
    refine GoT.q rfl (QEx.gtrK rfl (.tmp rfl) .con) rfl (lt_b rfl) ?_
    refine GoT.nil ?_
    refine Wp.condS h rfl (fun h => ?_) (fun h => ?_)
    · refine Wp.skip ?_
      refine Wp.seq ?_
      refine Wp.block ?_
      refine chk_e h fun c5 h => ?_
      refine let_e h fun x6 hx6 h => ?_
      refine Wp.region ?_
      refine GoT.q rfl (QEx.move rfl (.tmp rfl)) rfl (lt_b rfl) ?_
      refine GoT.q rfl (QEx.remK rfl (.tmp rfl) .con (by decide)) rfl (lt_b rfl) ?_
      refine GoT.q rfl (QEx.cvKC rfl Try.underlying5 (by rw [Try.underlying62]; rfl) (.tmp rfl)) rfl (lt_b rfl) ?_
      refine GoT.q rfl (QEx.as (slT 18 0 1 byteAV ([(toByte (Int.tmod v4 256))] : List UInt8)) (QEx.buildSlice rfl et22 (.cons (.tmp rfl) rfl rfl rfl .nil) rfl (by decide))) rfl (lt_b rfl) ?_
      refine GoT.q rfl (QEx.move rfl (.tmp rfl)) rfl (lt_b rfl) ?_
      refine GoT.a rfl (AEx.appL (E := byteAV) rfl et22 (.tmp rfl) (.tmp rfl) rfl c5 rfl rfl hx6 (by decide)) rfl (lt_b rfl) ?_
      refine GoT.q rfl (QEx.assign rfl (.tmp rfl)) rfl (lt_b rfl) ?_
      refine GoT.nil ?_
      refine let_e h fun x7 hx7 h => ?_
      refine Wp.region ?_
      refine GoT.q rfl (QEx.move rfl (.tmp rfl)) rfl (lt_b rfl) ?_
      refine GoT.q rfl (QEx.quoK rfl (.tmp rfl) .con (by decide)) rfl (lt_b rfl) ?_
      refine GoT.q rfl (QEx.eq (QEx.assign rfl (.tmp rfl)) (congrArg (kAV .u64) hx7)) rfl (lt_b rfl) ?_
      refine GoT.nil ?_
      exact Round2.mk x6 x7 [5] [(20, 5)] h (LS.to.mk (.b rfl rfl (.b rfl rfl (.r rfl rfl (.b rfl rfl .n)))) .n rfl)
    · refine Wp.exit ?_
      exact Joined1.mk v3 [] [] h (LS.to.mk (.b rfl rfl (.b rfl rfl (.r rfl rfl .n))) .n rfl)
theorem ref07_AppendInts_ok {b : List UInt8} {l : List Int} {r : List UInt8} (h : ref07_AppendInts b l = some r) : FnR Try.prog 28 [((slAV 1 byteAV) b), ((slAV 1 iAV) l)] (slT 0 0 1 byteAV r) := by
  refine FnR.intro' (fn := Try.f28) (N := 25) Try.func28 rfl rfl (Nat.le_of_ble_eq_true rfl) [4, 5, 7, 8, 10, 12, 17, 18, 22, 23, 24] ?_
  refine Wp.seq ?_
  refine Wp.region ?_
  refine GoT.q rfl (QEx.as (slT 4 0 1 byteAV ([] : List UInt8)) (QEx.assign rfl (.nil))) rfl (lt_b rfl) ?_
  refine GoT.nil ?_
  refine bind_e h fun r1 hr1 h => ?_
  refine Wp.seq ?_
  refine Wp.region ?_
  refine GoT.q rfl (QEx.move rfl (.tmp rfl)) rfl (lt_b rfl) ?_
  refine GoT.q rfl (QEx.move rfl (.tmp rfl)) rfl (lt_b rfl) ?_
  refine GoT.q rfl (QEx.lenL rfl ⟨_, Try.underlying53⟩ (.tmp rfl)) rfl (lt_b rfl) ?_
  refine GoT.c rfl (QEx.cal (r' := (slT 10 0 1 byteAV r1)) [((slAV 1 byteAV) b), (iAV ((l).length : Int))] rfl Try.call34 (.cons (.tmp rfl) (.cons (.tmp rfl) .nil)) (ref07_AppendInt_ok hr1) rfl rfl rfl) rfl rfl (lt_b rfl) ?_
  refine GoT.q rfl (QEx.assign rfl (.tmp rfl)) rfl (lt_b rfl) ?_
  refine GoT.nil ?_
  refine Wp.join1 (fun v2 => ⟨[(5, (slT 5 0 1 byteAV v2))], [], [4, 7, 8, 10, 12, 17, 18, 22, 23, 24]⟩) (fun v2 => ref07_AppendInts_j2 v2 = some r) ?_ ?_
  · intro v2 h
    refine Wp.seq ?_
    refine Wp.region ?_
    refine GoT.q rfl (QEx.move rfl (.tmp rfl)) rfl (lt_b rfl) ?_
    refine GoT.q rfl (QEx.assign rfl (.tmp rfl)) rfl (lt_b rfl) ?_
    refine GoT.nil ?_
    refine Wp.ret ?_
    cases h
    exact LeafQ.ret [(5, 0)] (by decide) (.cons (.tmp rfl) .nil) rfl
  · refine Wp.seq ?_
    refine Wp.region ?_
    refine GoT.q rfl (QEx.as (iAV 0) (QEx.assign rfl .con)) rfl (lt_b rfl) ?_
    refine GoT.nil ?_
    refine Wp.block ?_
    refine Wp.loop2 (fun v3 v4 => ⟨[(1, ((slAV 1 iAV) l)), (5, (slT 5 0 1 byteAV v3)), (6, (iAV v4))], [], [4, 7, 8, 10, 12, 17, 18, 22, 23, 24]⟩) (fun n v3 v4 => ref07_AppendInts_l1 l ref07_AppendInts_j2 n v3 v4 = some r) fuel r1 0 [] [(10, 5)] h (LS.to.mk (.b rfl rfl (.r rfl rfl (.b rfl rfl .n))) .n rfl) ?_
    rintro (_ | n2) v3 v4 h
    · exact none_e h
    rw [ref07_AppendInts_l1] at h
    refine Wp.seq ?_
    refine Wp.seq ?_
    refine Wp.region ?_
    refine GoT.q rfl (QEx.move rfl (.tmp rfl)) rfl (lt_b rfl) ?_
    refine GoT.q rfl (QEx.move rfl (.tmp rfl)) rfl (lt_b rfl) ?_
    refine GoT.q rfl (QEx.lenL rfl ⟨_, Try.underlying53⟩ (.tmp rfl)) rfl (lt_b rfl) ?_
    refine GoT.q rfl (QEx.lssK rfl (.tmp rfl) (.tmp rfl)) rfl (lt_b rfl) ?_
    refine GoT.nil ?_
    refine Wp.condS h rfl (fun h => ?_) (fun h => ?_)
    · refine Wp.skip ?_
      refine Wp.seq ?_
      refine Wp.block ?_
      refine chk_e h fun c5 h => ?_
      refine bind_e h fun r6 hr6 h => ?_
      refine chk_e h fun c7 h => ?_
      refine let_e h fun x8 hx8 h => ?_
      refine Wp.region ?_
      refine GoT.q rfl (QEx.move rfl (.tmp rfl)) rfl (lt_b rfl) ?_
      refine GoT.q rfl (QEx.move rfl (.tmp rfl)) rfl (lt_b rfl) ?_
      refine GoT.q rfl (QEx.move rfl (.tmp rfl)) rfl (lt_b rfl) ?_
      refine GoT.q rfl (QEx.as (.cptr [(iAV (ix l v4))]) (QEx.idxL (E := iAV) rfl et53 (.tmp rfl) (.tmp rfl) c5)) rfl (lt_b rfl) ?_
      refine GoT.q rfl (QEx.ldC (x := (iAV (ix l v4))) rfl ag3 ts3 (.tmp rfl) (.inr ⟨rfl, rfl⟩)) rfl (lt_b rfl) ?_
      refine GoT.c rfl (QEx.cal (r' := (slT 22 0 1 byteAV r6)) [((slAV 1 byteAV) ([] : List UInt8)), (iAV (ix l v4))] rfl Try.call34 (.cons (.nil (tk := none) (sz := 1)) (.cons (.tmp rfl) .nil)) (ref07_AppendInt_ok hr6) rfl rfl rfl) rfl rfl (lt_b rfl) ?_
      refine GoT.a rfl (AEx.appL (E := byteAV) rfl et22 (.tmp rfl) (.tmp rfl) rfl c7 rfl rfl hx8 (by decide)) rfl (lt_b rfl) ?_
      refine GoT.q rfl (QEx.assign rfl (.tmp rfl)) rfl (lt_b rfl) ?_
      refine GoT.nil ?_
      refine let_e h fun x9 hx9 h => ?_
      refine Wp.region ?_
      refine GoT.q rfl (QEx.move rfl (.tmp rfl)) rfl (lt_b rfl) ?_
      refine GoT.q rfl (QEx.addK rfl (.tmp rfl) .con) rfl (lt_b rfl) ?_
      refine GoT.q rfl (QEx.eq (QEx.assign rfl (.tmp rfl)) (congrArg iAV hx9)) rfl (lt_b rfl) ?_
      refine GoT.nil ?_
      exact Round2.mk x8 x9 [22] [(23, 5)] h (LS.to.mk (.b rfl rfl (.r rfl rfl (.b rfl rfl .n))) .n rfl)
    · refine Wp.exit ?_
      exact Joined1.mk v3 [] [] h (LS.to.mk (.r rfl rfl .n) .n rfl)
theorem law07_CodecSlices_ok {b : List UInt8} {at_1 : Int} {most : Int} {l : List Int} {r : Bool} (h : law07_CodecSlices b at_1 most l = some r) : FnR Try.prog 6 [((slAV 1 byteAV) b), (iAV at_1), (iAV most), ((slAV 1 iAV) l)] (boolAV r) := by
  refine FnR.intro' (fn := Try.f6) (N := 63) Try.func6 rfl rfl (Nat.le_of_ble_eq_true rfl) [9, 12, 15, 16, 21, 24, 29, 32, 36, 37, 50, 51, 54, 55] ?_
  refine Wp.seq ?_
  refine Wp.region ?_
  refine GoT.q rfl (QEx.as (boolAV false) (QEx.assign rfl .con)) rfl (lt_b rfl) ?_
  refine GoT.nil ?_
  refine Wp.seq ?_
  refine let_e h fun r1 hr1 h => ?_
  refine Wp.seq ?_
  refine Wp.region ?_
  refine GoT.q rfl (QEx.move rfl (.tmp rfl)) rfl (lt_b rfl) ?_
  refine GoT.q rfl (QEx.move rfl (.tmp rfl)) rfl (lt_b rfl) ?_
  refine GoT.q rfl (QEx.cal0 (r := (boolAV r1)) [((slAV 1 byteAV) b), (strAV ([] : List UInt8)), ((slAV 1 iAV) l)] rfl Try.call9 (.cons (.tmp rfl) (.cons (.cs ([] : List UInt8) rfl) (.cons (.tmp rfl) .nil))) (law07_small_ok hr1) rfl rfl) rfl (lt_b rfl) ?_
  refine GoT.q rfl (QEx.notK rfl (.tmp rfl)) rfl (lt_b rfl) ?_
  refine GoT.nil ?_
  refine Wp.condS h rfl (fun h => ?_) (fun h => ?_)
  · refine bind_e h fun r2 hr2 h => ?_
    refine Wp.seq ?_
    refine Wp.region ?_
    refine GoT.q rfl (QEx.cal0 (r := (boolAV r2)) [] rfl Try.call10 .nil (law07_example_ok hr2) rfl rfl) rfl (lt_b rfl) ?_
    refine GoT.q rfl (QEx.assign rfl (.tmp rfl)) rfl (lt_b rfl) ?_
    refine GoT.nil ?_
    refine Wp.ret ?_
    cases h
    exact LeafQ.ret [] (by decide) (.cons (.tmp rfl) .nil) rfl
  · refine Wp.skip ?_
    refine bind_e h fun r3 hr3 h => ?_
    refine Wp.seq ?_
    refine Wp.region ?_
    refine GoT.q rfl (QEx.move rfl (.tmp rfl)) rfl (lt_b rfl) ?_
    refine GoT.q rfl (QEx.move rfl (.tmp rfl)) rfl (lt_b rfl) ?_
    refine GoT.q rfl (QEx.move rfl (.tmp rfl)) rfl (lt_b rfl) ?_
    refine GoT.c rfl (QEx.cal (r' := (.tup [(slT 24 0 1 iAV r3.1), (iAV r3.2.1), (iAV r3.2.2)])) [((slAV 1 byteAV) b), (iAV at_1), (iAV most)] rfl Try.call25 (.cons (.tmp rfl) (.cons (.tmp rfl) (.cons (.tmp rfl) .nil))) (codec_ReadInts_ok hr3) rfl rfl rfl) rfl rfl (lt_b rfl) ?_
    refine GoT.q rfl (QEx.move rfl (.tmp rfl)) rfl (lt_b rfl) ?_
    refine GoT.q rfl (QEx.extract rfl (.tmp rfl) rfl) rfl (lt_b rfl) ?_
    refine GoT.q rfl (QEx.extract rfl (.tmp rfl) rfl) rfl (lt_b rfl) ?_
    refine GoT.q rfl (QEx.extract rfl (.tmp rfl) rfl) rfl (lt_b rfl) ?_
    refine GoT.q rfl (QEx.assign rfl (.tmp rfl)) rfl (lt_b rfl) ?_
    refine GoT.q rfl (QEx.assign rfl (.tmp rfl)) rfl (lt_b rfl) ?_
    refine GoT.q rfl (QEx.assign rfl (.tmp rfl)) rfl (lt_b rfl) ?_
    refine GoT.nil ?_
    refine bind_e h fun r4 hr4 h => ?_
    refine Wp.seq ?_
    refine Wp.region ?_
    refine GoT.q rfl (QEx.move rfl (.tmp rfl)) rfl (lt_b rfl) ?_
    refine GoT.q rfl (QEx.move rfl (.tmp rfl)) rfl (lt_b rfl) ?_
    refine GoT.q rfl (QEx.move rfl (.tmp rfl)) rfl (lt_b rfl) ?_
    refine GoT.c rfl (QEx.cal (r' := (.tup [(slT 32 0 1 iAV r4.1), (iAV r4.2.1), (iAV r4.2.2)])) [((slAV 1 byteAV) b), (iAV at_1), (iAV most)] rfl Try.call26 (.cons (.tmp rfl) (.cons (.tmp rfl) (.cons (.tmp rfl) .nil))) (ref07_ReadInts_ok hr4) rfl rfl rfl) rfl rfl (lt_b rfl) ?_
    refine GoT.q rfl (QEx.move rfl (.tmp rfl)) rfl (lt_b rfl) ?_
    refine GoT.q rfl (QEx.extract rfl (.tmp rfl) rfl) rfl (lt_b rfl) ?_
    refine GoT.q rfl (QEx.extract rfl (.tmp rfl) rfl) rfl (lt_b rfl) ?_
    refine GoT.q rfl (QEx.extract rfl (.tmp rfl) rfl) rfl (lt_b rfl) ?_
    refine GoT.q rfl (QEx.assign rfl (.tmp rfl)) rfl (lt_b rfl) ?_
    refine GoT.q rfl (QEx.assign rfl (.tmp rfl)) rfl (lt_b rfl) ?_
    refine GoT.q rfl (QEx.assign rfl (.tmp rfl)) rfl (lt_b rfl) ?_
    refine GoT.nil ?_
    refine bind_e h fun r5 hr5 h => ?_
    refine bind_e h fun r6 hr6 h => ?_
    refine bind_e h fun r7 hr7 h => ?_
    refine bind_e h fun r8 hr8 h => ?_
    refine let_e h fun x9 hx9 h => ?_
    refine Wp.seq ?_
    refine Wp.drawn2 (n0 := 28) [9, 12, 15, 16, 21, 29, 36, 37, 50, 51, 54, 55] mixed ?_
    refine GoD.q rfl (QEx.move rfl (.tmp rfl)) rfl (lt_b rfl) ?_
    refine GoD.q rfl (QEx.move rfl (.tmp rfl)) rfl (lt_b rfl) ?_
    refine GoD.q rfl (QEx.cal0 (r := (boolAV r5)) [((slAV 1 iAV) r3.1), ((slAV 1 iAV) r4.1)] rfl Try.call27 (.cons (.tmp rfl) (.cons (.tmp rfl) .nil)) (ref07_Ints_ok hr5) rfl rfl) rfl (lt_b rfl) ?_
    refine GoD.q rfl (QEx.move rfl (.tmp rfl)) rfl (lt_b rfl) ?_
    refine GoD.g rfl rfl rfl (fun hg => QEx.move rfl (.tmp rfl)) rfl (lt_b rfl) ?_
    refine GoD.g rfl rfl rfl (fun hg => QEx.move rfl (.tmp rfl)) rfl (lt_b rfl) ?_
    refine GoD.g rfl rfl rfl (fun hg => QEx.eqlK rfl (.opt (.tmp rfl) hg) (.opt (.tmp rfl) hg)) rfl (lt_b rfl) ?_
    refine GoD.q rfl (QEx.pickK rfl (.tmp rfl) (fun hp => (.opt (.tmp rfl) (beq_t hp))) (fun hp => .con)) rfl (lt_b rfl) ?_
    refine GoD.q rfl (QEx.move rfl (.tmp rfl)) rfl (lt_b rfl) ?_
    refine GoD.g rfl rfl rfl (fun hg => QEx.move rfl (.tmp rfl)) rfl (lt_b rfl) ?_
    refine GoD.g rfl rfl rfl (fun hg => QEx.move rfl (.tmp rfl)) rfl (lt_b rfl) ?_
    refine GoD.g rfl rfl rfl (fun hg => QEx.eqlK rfl (.opt (.tmp rfl) hg) (.opt (.tmp rfl) hg)) rfl (lt_b rfl) ?_
    refine GoD.q rfl (QEx.pickK rfl (.tmp rfl) (fun hp => (.opt (.tmp rfl) (beq_t hp))) (fun hp => .con)) rfl (lt_b rfl) ?_
    refine GoD.q rfl (QEx.move rfl (.tmp rfl)) rfl (lt_b rfl) ?_
    refine GoD.g rfl rfl rfl (fun hg => QEx.move rfl (.tmp rfl)) rfl (lt_b rfl) ?_
    refine GoD.g rfl rfl rfl (fun hg => QEx.move rfl (.tmp rfl)) rfl (lt_b rfl) ?_
    refine GoD.g rfl rfl rfl (fun hg => QEx.cal0 (r := ((slAV 1 byteAV) r6)) [((slAV 1 byteAV) b), ((slAV 1 iAV) l)] rfl Try.call14 (.cons (.opt (.tmp rfl) hg) (.cons (.opt (.tmp rfl) hg) .nil)) (FnR.bare (codec_AppendInts_ok (gcall hr6 hg))) rfl rfl) rfl (lt_b rfl) ?_
    refine GoD.g rfl rfl rfl (fun hg => QEx.strOf rfl Try.underlying22 Try.underlying5 Try.underlying9 (.opt (.tmp rfl) hg)) rfl (lt_b rfl) ?_
    refine GoD.g rfl rfl rfl (fun hg => QEx.move rfl (.tmp rfl)) rfl (lt_b rfl) ?_
    refine GoD.g rfl rfl rfl (fun hg => QEx.move rfl (.tmp rfl)) rfl (lt_b rfl) ?_
    refine GoD.g rfl rfl rfl (fun hg => QEx.cal0 (r := ((slAV 1 byteAV) r7)) [((slAV 1 byteAV) b), ((slAV 1 iAV) l)] rfl Try.call28 (.cons (.opt (.tmp rfl) hg) (.cons (.opt (.tmp rfl) hg) .nil)) (FnR.bare (ref07_AppendInts_ok (gcall hr7 hg))) rfl rfl) rfl (lt_b rfl) ?_
    refine GoD.g rfl rfl rfl (fun hg => QEx.strOf rfl Try.underlying22 Try.underlying5 Try.underlying9 (.opt (.tmp rfl) hg)) rfl (lt_b rfl) ?_
    refine GoD.g rfl rfl rfl (fun hg => QEx.eqlS rfl (.opt (.tmp rfl) hg) (.opt (.tmp rfl) hg)) rfl (lt_b rfl) ?_
    refine GoD.q rfl (QEx.pickK rfl (.tmp rfl) (fun hp => (.opt (.tmp rfl) (beq_t hp))) (fun hp => .con)) rfl (lt_b rfl) ?_
    refine GoD.q rfl (QEx.move rfl (.tmp rfl)) rfl (lt_b rfl) ?_
    refine GoD.g rfl rfl rfl (fun hg => QEx.cal0 (r := (boolAV r8)) [] rfl Try.call10 .nil (law07_example_ok (gcall hr8 hg)) rfl rfl) rfl (lt_b rfl) ?_
    refine GoD.q rfl (QEx.pickK rfl (.tmp rfl) (fun hp => (.opt (.tmp rfl) (beq_t hp))) (fun hp => .con)) rfl (lt_b rfl) ?_
    refine GoD.q rfl (QEx.eq (QEx.assign rfl (.tmp rfl)) (congrArg boolAV hx9)) rfl (lt_b rfl) ?_
    refine GoD.nil ⟨by kernel_rfl, by kernel_rfl, by kernel_rfl, by kernel_rfl, by kernel_rfl, ?_⟩
    refine GoT.nil ?_
    refine Wp.ret ?_
    cases h
    exact LeafQ.ret [] (by decide) (.cons (.tmp rfl) .nil) rfl
theorem ref07_ReadString_ok {b : List UInt8} {at_1 : Int} {most : Int} {r : List UInt8 × Int × Int} (h : ref07_ReadString b at_1 most = some r) : FnR Try.prog 23 [((slAV 1 byteAV) b), (iAV at_1), (iAV most)] (.tup [(strAV r.1), (iAV r.2.1), (iAV r.2.2)]) := by
  refine FnR.intro' (fn := Try.f23) (N := 39) Try.func23 rfl rfl (Nat.le_of_ble_eq_true rfl) [13, 23, 29, 34] ?_
  refine Wp.seq ?_
  refine Wp.region ?_
  refine GoT.q rfl (QEx.as (strAV ([] : List UInt8)) (QEx.assign rfl (.cs ([] : List UInt8) rfl))) rfl (lt_b rfl) ?_
  refine GoT.q rfl (QEx.as (iAV 0) (QEx.assign rfl .con)) rfl (lt_b rfl) ?_
  refine GoT.q rfl (QEx.as (iAV 0) (QEx.assign rfl .con)) rfl (lt_b rfl) ?_
  refine GoT.nil ?_
  refine bind_e h fun r1 hr1 h => ?_
  refine Wp.seq ?_
  refine Wp.region ?_
  refine GoT.q rfl (QEx.move rfl (.tmp rfl)) rfl (lt_b rfl) ?_
  refine GoT.q rfl (QEx.move rfl (.tmp rfl)) rfl (lt_b rfl) ?_
  refine GoT.q rfl (QEx.move rfl (.tmp rfl)) rfl (lt_b rfl) ?_
  refine GoT.q rfl (QEx.cal0 (r := (.tup [(iAV r1.1), (iAV r1.2.1), (iAV r1.2.2)])) [((slAV 1 byteAV) b), (iAV at_1), (iAV most)] rfl Try.call33 (.cons (.tmp rfl) (.cons (.tmp rfl) (.cons (.tmp rfl) .nil))) (ref07_length_ok hr1) rfl rfl) rfl (lt_b rfl) ?_
  refine GoT.q rfl (QEx.move rfl (.tmp rfl)) rfl (lt_b rfl) ?_
  refine GoT.q rfl (QEx.extract rfl (.tmp rfl) rfl) rfl (lt_b rfl) ?_
  refine GoT.q rfl (QEx.extract rfl (.tmp rfl) rfl) rfl (lt_b rfl) ?_
  refine GoT.q rfl (QEx.extract rfl (.tmp rfl) rfl) rfl (lt_b rfl) ?_
  refine GoT.q rfl (QEx.assign rfl (.tmp rfl)) rfl (lt_b rfl) ?_
  refine GoT.q rfl (QEx.assign rfl (.tmp rfl)) rfl (lt_b rfl) ?_
  refine GoT.q rfl (QEx.assign rfl (.tmp rfl)) rfl (lt_b rfl) ?_
  refine GoT.nil ?_
  refine Wp.seq ?_
  refine Wp.seq ?_
  refine Wp.region ?_
  refine GoT.q rfl (QEx.move rfl (.tmp rfl)) rfl (lt_b rfl) ?_
  refine GoT.q rfl (QEx.neqK rfl (.tmp rfl) .con) rfl (lt_b rfl) ?_
  refine GoT.nil ?_
  refine Wp.condS h rfl (fun h => ?_) (fun h => ?_)
  · refine Wp.seq ?_
    refine Wp.region ?_
    refine GoT.q rfl (QEx.move rfl (.tmp rfl)) rfl (lt_b rfl) ?_
    refine GoT.q rfl (QEx.as (strAV ([] : List UInt8)) (QEx.assign rfl (.cs ([] : List UInt8) rfl))) rfl (lt_b rfl) ?_
    refine GoT.q rfl (QEx.as (iAV 0) (QEx.assign rfl .con)) rfl (lt_b rfl) ?_
    refine GoT.q rfl (QEx.assign rfl (.tmp rfl)) rfl (lt_b rfl) ?_
    refine GoT.nil ?_
    refine Wp.ret ?_
    cases h
    exact LeafQ.ret [] (by decide) (.cons (.tmp rfl) (.cons (.tmp rfl) (.cons (.tmp rfl) .nil))) rfl
  · refine Wp.skip ?_
    refine Wp.seq ?_
    refine Wp.seq ?_
    refine Wp.region ?_
    refine GoT.q rfl (QEx.move rfl (.tmp rfl)) rfl (lt_b rfl) ?_
    refine GoT.q rfl (QEx.lenL rfl ⟨_, Try.underlying22⟩ (.tmp rfl)) rfl (lt_b rfl) ?_
    refine GoT.q rfl (QEx.move rfl (.tmp rfl)) rfl (lt_b rfl) ?_
    refine GoT.q rfl (QEx.subK rfl (.tmp rfl) (.tmp rfl)) rfl (lt_b rfl) ?_
    refine GoT.q rfl (QEx.move rfl (.tmp rfl)) rfl (lt_b rfl) ?_
    refine GoT.q rfl (QEx.lssK rfl (.tmp rfl) (.tmp rfl)) rfl (lt_b rfl) ?_
    refine GoT.nil ?_
    refine Wp.condS h rfl (fun h => ?_) (fun h => ?_)
    · refine Wp.seq ?_
      refine Wp.region ?_
      refine GoT.q rfl (QEx.as (strAV ([] : List UInt8)) (QEx.assign rfl (.cs ([] : List UInt8) rfl))) rfl (lt_b rfl) ?_
      refine GoT.q rfl (QEx.as (iAV 0) (QEx.assign rfl .con)) rfl (lt_b rfl) ?_
      refine GoT.q rfl (QEx.as (iAV 4) (QEx.assign rfl .con)) rfl (lt_b rfl) ?_
      refine GoT.nil ?_
      refine Wp.ret ?_
      cases h
      exact LeafQ.ret [] (by decide) (.cons (.tmp rfl) (.cons (.tmp rfl) (.cons (.tmp rfl) .nil))) rfl
    · refine Wp.skip ?_
      refine chk_e h fun c2 h => ?_
      refine let_e h fun x3 hx3 h => ?_
      refine let_e h fun x4 hx4 h => ?_
      refine Wp.seq ?_
      refine Wp.region ?_
      refine GoT.q rfl (QEx.move rfl (.tmp rfl)) rfl (lt_b rfl) ?_
      refine GoT.q rfl (QEx.move rfl (.tmp rfl)) rfl (lt_b rfl) ?_
      refine GoT.q rfl (QEx.move rfl (.tmp rfl)) rfl (lt_b rfl) ?_
      refine GoT.q rfl (QEx.move rfl (.tmp rfl)) rfl (lt_b rfl) ?_
      refine GoT.q rfl (QEx.addK rfl (.tmp rfl) (.tmp rfl)) rfl (lt_b rfl) ?_
      refine GoT.q rfl (QEx.eq (QEx.slMid rfl et22 (.tmp rfl) (.tmp rfl) (.tmp rfl) c2) (congrArg (slAV 1 byteAV) hx3)) rfl (lt_b rfl) ?_
      refine GoT.q rfl (QEx.strOf rfl Try.underlying22 Try.underlying5 Try.underlying9 (.tmp rfl)) rfl (lt_b rfl) ?_
      refine GoT.q rfl (QEx.move rfl (.tmp rfl)) rfl (lt_b rfl) ?_
      refine GoT.q rfl (QEx.move rfl (.tmp rfl)) rfl (lt_b rfl) ?_
      refine GoT.q rfl (QEx.addK rfl (.tmp rfl) (.tmp rfl)) rfl (lt_b rfl) ?_
      refine GoT.q rfl (QEx.assign rfl (.tmp rfl)) rfl (lt_b rfl) ?_
      refine GoT.q rfl (QEx.eq (QEx.assign rfl (.tmp rfl)) (congrArg iAV hx4)) rfl (lt_b rfl) ?_
      refine GoT.q rfl (QEx.as (iAV 0) (QEx.assign rfl .con)) rfl (lt_b rfl) ?_
      refine GoT.nil ?_
      refine Wp.ret ?_
      cases h
      exact LeafQ.ret [] (by decide) (.cons (.tmp rfl) (.cons (.tmp rfl) (.cons (.tmp rfl) .nil))) rfl
end GoForm
