/-
  Slices with three bounds whose value does not count; slices of what is no plain data, made of own cells. Conditions: those named in each rule.
-/
import Derived.Test.YtdknhngjfoaphaaGreatRxP
set_option linter.all false
namespace Go.Rx
open Go.RowKit
section
variable {P : Program} {o : Oper} {e : Env}
/-- s[lo:hi:max]: it does not fail. -/
theorem QEx.slice3U {t y lo hi mx E sz by_ id off len mc need k1 k2 k3 a b c} (ho : o.op = .slice t y (some lo) (some hi) (some mx)) (ht : ElemT P t E sz by_) (hy : ROk o e need y (.row id off len mc sz))
    (hlo : OpdOk e lo (.v (.int k1 a))) (hhi : OpdOk e hi (.v (.int k2 b))) (hmx : OpdOk e mx (.v (.int k3 c))) (h : 0 ≤ a ∧ a ≤ b ∧ b ≤ c ∧ c ≤ mc) : QEx P o e need .undef :=
  .pure fun _ _ _ m bl ac w hws hnd hr => by
    have h1 := hy _ _ _ _ _ _ _ hws hnd hr
    have q1 := (hlo.rep hr (by simp [ho, Op.operands])).eq_v
    have q2 := (hhi.rep hr (by simp [ho, Op.operands])).eq_v
    have q3 := (hmx.rep hr (by simp [ho, Op.operands])).eq_v
    generalize hv : ac.eval y = v at h1
    have e1 : ∀ cap : Nat, mc ≤ cap → (Instr.sliceBounds true len cap (some (ac.eval lo)) (some (ac.eval hi)) (some (ac.eval mx))).run P w = .ok (a.toNat, b.toNat, c.toNat) w := by
      intro cap hc
      have c1 : c ≤ (cap : Int) := by omega
      have c2 : 0 ≤ c := by omega
      have c3 : 0 ≤ b := by omega
      have hm : max c 0 = c := by omega
      have hm2 : max b 0 = b := by omega
      simp [Instr.sliceBounds, q1, q2, q3, Instr.sliceBound, asIntOf, c1, c2, c3, hm, hm2, h.1, h.2.1, h.2.2.1]
    cases h1 with
    | rownil =>
      rename_i ad
      refine ⟨.slice (if c.toNat = a.toNat then ad else ad.map (·.add (a.toNat * sz))) (b.toNat - a.toNat) (c.toNat - a.toNat), ?_, .undef⟩
      have := e1 0 (Nat.le_refl _)
      simp only [execOp, ho, hv, Instr.sliceAt, Sem.run_bind, run_underlying_of ht.under, Result.andThen_ok, Instr.slice, Option.map_some, this, run_sizeOf_of ht.sz, Sem.run_pure]
    | row hb' g1 g2 g3 =>
      rename_i bb n cap
      refine ⟨.slice (if c.toNat = a.toNat then some ⟨bb, off, none⟩ else (some (⟨bb, off, none⟩ : Addr)).map (·.add (a.toNat * sz))) (b.toNat - a.toNat) (c.toNat - a.toNat), ?_, .undef⟩
      have := e1 cap g2
      simp only [execOp, ho, hv, Instr.sliceAt, Sem.run_bind, run_underlying_of ht.under, Result.andThen_ok, Instr.slice, Option.map_some, this, run_sizeOf_of ht.sz, Sem.run_pure]
/-- A slice made of cells that may name own blocks. -/
theorem LEx.buildOwn {ops : Array Oper} {N : Nat} {t E sz by_ n d nm ps Z} (hg : o.guard = none) (hd : o.dst = some d) (hN : d < N) (ho : o.op = .buildSlice t n ps) (ht : ElemT P t E sz by_)
    (h : FillOk e (fun i => some (i * sz, sz)) ps.toList (List.replicate (n * sz) AV.undef) Z) (hlen : Z.length = n * sz) (hn : 0 < n) (hlim : n * sz ≤ 2 ^ 24) :
    LEx P ops N o ⟨reOf e (o.looksAt ops), [], [(d, .rw nm sz)], [(nm, .cells Z)], [nm]⟩ := by
  refine .newOwn hg hd hN fun m bl a w hr => ?_
  obtain ⟨i, z, hi1, hi2, hi3, hi4, hi5, hi6⟩ := ht.info
  have h0 : ¬ n * sz = 0 := by
    have := Nat.mul_pos hn ht.pos
    omega
  have hZ : ∃ zs : Array Value, zs.size = n * sz ∧ (∀ c ∈ zs.toList, oneCell c = true) ∧ zs = rangeFill z.cells (n * sz) := by
    refine ⟨_, by simp [rangeFill], ?_, rfl⟩
    intro c hc
    simp only [rangeFill, Array.toList_map, Array.toList_range, List.mem_map, List.mem_range] at hc
    obtain ⟨j, hj, rfl⟩ := hc
    have hlt : j % z.cells.size < z.cells.size := Nat.mod_lt _ (by rw [hi5]; exact ht.pos)
    rw [getElem!_pos z.cells _ hlt]
    exact List.all_eq_true.1 hi6 _ (by simp)
  obtain ⟨zs, hz1, hz2, hz3⟩ := hZ
  obtain ⟨cells', k1, k2, k3⟩ := h.run (o := o) hr (fun p hp => by rw [ho]; simp only [Op.operands]; simp; exact ⟨p.1, by simpa using hp⟩) zs
    (by
      have : ∀ (vs : List Value), Reps m bl (List.replicate vs.length AV.undef) vs := by
        intro vs; induction vs with
        | nil => exact .nil
        | cons v vs ih => exact .cons .undef ih
      have := this zs.toList
      rwa [Array.length_toList, hz1] at this) hz2
  have hcl : cells'.toList.length = n * sz := by rw [← k2.length, hlen]
  have hrun : (execOp a.eval o).run P w = .ok (.value (.slice (some ⟨w.heap.size, 0, none⟩) n n)) (w.alloc (.cells cells' E)) := by
    have hlim' : ¬ (2 ^ 24 < n * sz) := by omega
    have k1' : Instr.fill (fun i => some (i * sz, sz)) zs (ps.map fun (i, x) => (i, a.eval x)).toList = some cells' := by simpa using k1
    subst hz3
    unfold rangeFill at k1'
    simp at k1'
    simp only [execOp, ho, Instr.buildSlice, Sem.run_bind, run_underlying_of ht.under, Result.andThen_ok, run_sizeOf_of ht.sz]
    simp [hlim', h0, zeroValue, typeInfo, hi1, hi2, k1', newRow]
  refine ⟨_, cells', E, cells'.toList, [], hrun, by simp, k2, k3, fun bl' hb => ?_⟩
  exact .rw hb (by rw [hcl]) (Nat.le_refl _) (by rw [← Array.length_toList, hcl]; exact Nat.le_refl _)
end
end Go.Rx
