/-
  The call's own blocks: variables whose address is taken, structs, arrays. Conditions: those named in each rule.
-/
import Derived.Test.YtblkmlpjhpgkjaaCxG
set_option linter.all false
namespace Go.Cx
open Go.RowKit

def updN (bl : Names) (d b : Nat) : Names := fun id => if id = d then some b else bl id

theorem WSim.newOwn {B m0 h m bl hh w w' d} {arr : Array Value} {T : TypeId} {Z : List AV} (s : WSim B m0 h m bl hh w) (hB : B ≤ w.heap.size) (hfree : bl d = none)
    (hw : w'.heap = w.heap.push (.cells arr T (0, 0))) (hZ : Reps m bl hh Z arr.toList) (h1 : ∀ c ∈ arr.toList, oneCell c = true) :
    WSim B m0 ((d, .cells Z) :: h) m (updN bl d w.heap.size) hh w' ∧ (∀ id b, bl id = some b → updN bl d w.heap.size id = some b) := by
  have hext : ∀ id b, bl id = some b → updN bl d w.heap.size id = some b := by
    intro id b e
    unfold updN; rw [if_neg]; exact e
    intro he; subst he; rw [hfree] at e; cases e
  have hold : ∀ b, b < w.heap.size → w'.heap[b]? = w.heap[b]? := by
    intro b hb; rw [hw, Array.getElem?_push, if_neg (by omega)]
  have hnew : w'.heap[w.heap.size]? = some (.cells arr T (0, 0)) := by rw [hw, Array.getElem?_push, if_pos rfl]
  refine ⟨⟨?_, s.le, s.grow, ?_, ?_, ?_, ?_, ?_⟩, hext⟩
  · intro b o v e
    have := s.imm b o v e
    simp only [World.cell?, hold b (s.imm.lt e)] at this ⊢
    exact this
  · intro id l hf
    simp only [find] at hf
    split at hf
    · rename_i hd; subst hd
      simp at hf; subst hf
      exact ⟨w.heap.size, arr, T, by simp [updN], hnew, hZ.widen hext (fun _ _ e => e), h1⟩
    · obtain ⟨b, arr', T', g1, g2, g3, g4⟩ := s.blk id l hf
      exact ⟨b, arr', T', hext _ _ g1, by rw [hold b (s.own id b g1).2.1]; exact g2, g3.widen hext (fun _ _ e => e), g4⟩
  · intro id x p hf
    simp only [find] at hf
    split at hf
    · simp at hf
    · obtain ⟨b, g1, g2⟩ := s.it id x p hf
      exact ⟨b, hext _ _ g1, by rw [hold b (s.own id b g1).2.1]; exact g2⟩
  · intro id b g
    unfold updN at g
    split at g
    · simp at g; subst g
      refine ⟨hB, by rw [hw, Array.size_push]; omega, fun o => ?_⟩
      cases hm : m w.heap.size o with
      | none => rfl
      | some v => have := s.imm.lt hm; omega
    · obtain ⟨g1, g2, g3⟩ := s.own id b g
      exact ⟨g1, by rw [hw, Array.size_push]; omega, g3⟩
  · intro id id' b g g'
    unfold updN at g g'
    split at g
    · split at g'
      · omega
      · simp at g; have := (s.own id' b g').2.1; omega
    · split at g'
      · simp at g'; have := (s.own id b g).2.1; omega
      · exact s.inj id id' b g g'
  · intro k b f t hs
    obtain ⟨g1, ⟨arr', T', g2, g2'⟩, g3, g4, g5⟩ := s.spare k b f t hs
    have hb : b < w.heap.size := by
      rcases Nat.lt_or_ge b w.heap.size with h | h
      · exact h
      · simp [Array.getElem?_eq_none h] at g2
    refine ⟨g1, ⟨arr', T', by rw [hold b hb]; exact g2, g2'⟩, g3, fun id he => ?_, g5⟩
    unfold updN at he
    split at he
    · simp at he; omega
    · exact g4 id he

/-- A new block of the call's own. -/
theorem AEx.newOwn {P : Program} {o : Oper} {L : LS} {d f'} {Z : List AV} (hd : o.dst = some d) (hfr : d ∈ L.f ∧ ∀ y ∈ f', y ∈ L.f ∧ y ≠ d)
    (H : ∀ (m : Mem) (bl : Names) (hh : Spare) (a : Act) (w : World), Reads o L.e m bl hh a → ∃ (arr : Array Value) (T : TypeId), (execOp a.eval o).run P w = .ok (.value (.pointer (some ⟨w.heap.size, 0, none⟩))) (w.alloc (.cells arr T)) ∧
      Reps m bl hh Z arr.toList ∧ (∀ c ∈ arr.toList, oneCell c = true)) : AEx P o L ⟨(d, .ptr d 0) :: L.e, (d, .cells Z) :: L.h, f'⟩ := by
  intro N W0 m0 m bl hh a w s hdN next Q k
  obtain ⟨arr, T, hrun, hZ, h1⟩ := H m bl hh a w (fun t _ y hf => s.env t y hf)
  obtain ⟨q1, q2⟩ := s.ws.newOwn (w' := w.alloc (.cells arr T)) (d := d) s.below.size (s.free d hfr.1).1 rfl hZ h1
  unfold Oper.wp
  rw [hrun, Oper.upon_value]
  refine k _ _ m _ hh ⟨?_, ?_, s.below.alloc s.below.size _, q1, ?_, ?_⟩
  · simp [Act.put, hd, s.defers]
  · simp [Act.put, hd, s.size]
  · rw [hd]
    exact EnvRep.put (fun t x e => (s.env t x e).widen q2 (fun _ _ e => e)) (.ptr (by simp [updN])) (by rw [s.size]; exact hdN d hd)
  · intro d' hd'
    obtain ⟨g1, g2⟩ := hfr.2 d' hd'
    refine ⟨?_, (s.free d' g1).2⟩
    unfold updN; rw [if_neg g2]; exact (s.free d' g1).1

theorem AEx.alloc {P : Program} {o : Oper} {L : LS} {E d f' zs} (ho : o.op = .alloc E) (hz : tZero P E = some zs) (h1 : zs.all oneCell = true) (hd : o.dst = some d) (hf : takeOut d L.f = some f') :
    AEx P o L ⟨(d, .ptr d 0) :: L.e, (d, .cells (zs.map zeroAV)) :: L.h, f'⟩ :=
  .newOwn hd (takeOut_spec hf) fun m bl hh a w _ => by
    obtain ⟨z, hz1, hz2⟩ := run_zero_of hz w
    refine ⟨z.cells, E, ?_, by rw [hz2]; exact zeroAV_reps zs, by rw [hz2]; simpa using h1⟩
    simp [execOp, ho, Instr.alloc, hz1, newVar, newRow]

theorem AEx.box {P : Program} {o : Oper} {L : LS} {E y x d f'} (ho : o.op = .box E y) (hy : OpdOk P L.e E y x) (hs : x.solid = true) (hd : o.dst = some d) (hf : takeOut d L.f = some f') :
    AEx P o L ⟨(d, .ptr d 0) :: L.e, (d, .cells x.cells) :: L.h, f'⟩ :=
  .newOwn hd (takeOut_spec hf) fun m bl hh a w hr => by
    obtain ⟨g1, g2⟩ := (hy.rep hr (by simp [ho, Op.operands])).cells hs
    exact ⟨(a.eval y).cells, E, by simp [execOp, ho, Instr.box, newVar, newRow], g1, g2⟩

theorem WSim.store {B m0 h m bl hh w id b} {arr na : Array Value} {T : TypeId} {Z : List AV} (s : WSim B m0 h m bl hh w) (hb : bl id = some b) (hg : w.heap[b]? = some (.cells arr T (0, 0)))
    (hZ : Reps m bl hh Z na.toList) (h1 : ∀ c ∈ na.toList, oneCell c = true) : WSim B m0 ((id, .cells Z) :: h) m bl hh (w.setRow b na) := by
  have hheap := setRow_heap w b arr na T (0, 0) hg
  have hother : ∀ b', b' ≠ b → (w.setRow b na).heap[b']? = w.heap[b']? := fun b' h => setRow_other w b b' na h
  have hsize : (w.setRow b na).heap.size = w.heap.size := by simp [World.setRow]
  obtain ⟨o1, o2, o3⟩ := s.own id b hb
  refine ⟨?_, s.le, s.grow, ?_, ?_, ?_, s.inj, ?_⟩
  · intro b' o v e
    have hne : b' ≠ b := by rintro rfl; rw [o3 o] at e; cases e
    have := s.imm b' o v e
    simp only [World.cell?, hother b' hne] at this ⊢
    exact this
  · intro id' l hf
    simp only [find] at hf
    split at hf
    · rename_i hd; subst hd
      simp at hf; subst hf
      exact ⟨b, na, T, hb, hheap, hZ, h1⟩
    · rename_i hne
      obtain ⟨b', arr', T', g1, g2, g3, g4⟩ := s.blk id' l hf
      have hbb : b' ≠ b := by rintro rfl; exact hne (s.inj _ _ _ hb g1)
      exact ⟨b', arr', T', g1, by rw [hother b' hbb]; exact g2, g3, g4⟩
  · intro id' x p hf
    simp only [find] at hf
    split at hf
    · simp at hf
    · rename_i hne
      obtain ⟨b', g1, g2⟩ := s.it id' x p hf
      have hbb : b' ≠ b := by rintro rfl; exact hne (s.inj _ _ _ hb g1)
      exact ⟨b', g1, by rw [hother b' hbb]; exact g2⟩
  · intro id' b' g
    obtain ⟨g1, g2, g3⟩ := s.own id' b' g
    exact ⟨g1, by rw [hsize]; exact g2, g3⟩
  · intro k b' f t hs
    obtain ⟨g1, ⟨arr', T', g2, g2'⟩, g3, g4, g5⟩ := s.spare k b' f t hs
    have hbb : b' ≠ b := by rintro rfl; exact g4 id hb
    exact ⟨g1, ⟨arr', T', by rw [hother b' hbb]; exact g2, g2'⟩, g3, g4, g5⟩

theorem AEx.store {P : Program} {o : Oper} {L : LS} {t y z id off l x sz} (ho : o.op = .store t y z) (hdst : o.dst = none) (hs : tSz P t = some sz) (hy : OpdOk P L.e 0 y (.ptr id off)) (hh : find id L.h = some (.cells l))
    (hz : OpdOk P L.e t z x) (hx : x.solid = true) (hl : x.cells.length = sz) (hfit : off + sz ≤ l.length) :
    AEx P o L ⟨L.e, (id, .cells (l.take off ++ x.cells ++ l.drop (off + sz))) :: L.h, L.f⟩ := by
  intro N W0 m0 m bl hh' a w s hdN next Q k
  have hR : Reads o L.e m bl hh' a := fun t _ y hf => s.env t y hf
  have r1 := hy.rep hR (by simp [ho, Op.operands])
  obtain ⟨g1, g2⟩ := (hz.rep hR (by simp [ho, Op.operands])).cells hx
  obtain ⟨b, arr, T, hb, hg, hr, h1⟩ := s.ws.blk id l hh
  generalize hv : a.eval y = v at r1
  cases r1 with
  | ptr hb' =>
    rw [hb] at hb'; cases hb'
    have hvs : (a.eval z).cells.toList.length = sz := by rw [← g1.length, hl]
    have hlen := hr.length
    have hst := run_storeCells_at P b off T (a.eval z).cells.toList 0 arr w hg (by simp at hlen hvs ⊢; omega) g2
    simp only [Nat.add_zero] at hst
    have hrun : (execOp a.eval o).run P w = .ok .skip (w.setRow b (arr.toList.take off ++ (a.eval z).cells.toList ++ arr.toList.drop (off + (a.eval z).cells.toList.length)).toArray) := by
      have : (a.eval z).cells.size = sz := by simpa using hvs
      simp [execOp, ho, hv, Instr.storeAt, Instr.sureAddr, storeVar, run_sizeOf_of hs, this] at hst ⊢
      rw [hst]
      simp
    have := s.ws.store hb hg (na := (arr.toList.take off ++ (a.eval z).cells.toList ++ arr.toList.drop (off + (a.eval z).cells.toList.length)).toArray) (Z := l.take off ++ x.cells ++ l.drop (off + sz))
      (by rw [hvs]; exact ((hr.take off).append g1).append (hr.drop _))
      (by
        intro c hc
        rcases List.mem_append.1 hc with hc | hc
        · rcases List.mem_append.1 hc with hc | hc
          · exact h1 c (List.mem_of_mem_take hc)
          · exact g2 c hc
        · exact h1 c (List.mem_of_mem_drop hc))
    unfold Oper.wp
    rw [hrun, Oper.upon_skip]
    have ho1 := (s.ws.own id b hb).1
    refine k _ _ m bl hh' ⟨?_, ?_, ?_, this, ?_, s.free⟩
    · simp [Act.put, hdst, s.defers]
    · simp [Act.put, hdst, s.size]
    · exact s.below.trans ⟨rfl, rfl, rfl, by simp [World.setRow], fun k' hk' => setRow_other w b k' _ (by omega)⟩
    · rw [hdst]; exact s.env

section
variable {P : Program} {o : Oper} {e : Env}

theorem QEx.loadP {t y id off l sz} (ho : o.op = .load t y) (ha : tAg P t = some true) (hs : tSz P t = some sz) (hy : OpdOk P e 0 y (.ptr id off)) (hfit : off + sz ≤ l.length) :
    QEx P o e [(id, l)] false (.agg ((l.drop off).take sz)) :=
  .pure fun _ _ _ m bl hh ac w hws hn hr => by
    have h1 := hy.rep hr (by simp [ho, Op.operands])
    obtain ⟨b, arr, T, hb, hg, hrp, ho1⟩ := hws.blk id l (hn (id, l) (by simp))
    generalize hv : ac.eval y = v at h1
    cases h1 with
    | ptr hb' =>
      rw [hb] at hb'; cases hb'
      have hlen := hrp.length
      refine ⟨.agg ((arr.toList.drop off).take sz).toArray, ?_, .agg ((hrp.drop off).take sz) fun c hc => ho1 c (List.mem_of_mem_drop (List.mem_of_mem_take hc))⟩
      have := run_loadVar_agg (P := P) (ty := t) (cs := (arr.toList.drop off).take sz) (w := w) (b := b) (o := off) ha (by rw [hs]; simp at hlen ⊢; omega) fun j v hj => by
        rw [cell_of_blk hg]
        have := take_drop_get hj
        simpa using this
      simp [execOp, ho, hv, Instr.loadAt, Instr.sureAddr, this]

theorem QEx.loadP1 {t y id off l x} (ho : o.op = .load t y) (ha : tAg P t = some false) (hy : OpdOk P e 0 y (.ptr id off)) (hx : l[off]? = some x) : QEx P o e [(id, l)] false x :=
  .pure fun _ _ _ m bl hh ac w hws hn hr => by
    have h1 := hy.rep hr (by simp [ho, Op.operands])
    obtain ⟨b, arr, T, hb, hg, hrp, ho1⟩ := hws.blk id l (hn (id, l) (by simp))
    generalize hv : ac.eval y = v at h1
    cases h1 with
    | ptr hb' =>
      rw [hb] at hb'; cases hb'
      obtain ⟨v, hv1, hv2⟩ := hrp.get off x hx
      refine ⟨v, ?_, hv2⟩
      have hc : w.cell? ⟨b, off, none⟩ = some v := by rw [cell_of_blk hg]; simpa using hv1
      simp [execOp, ho, hv, Instr.loadAt, Instr.sureAddr, run_loadVar_one ha hc]

theorem QEx.fieldP {t y f id off fs fd sz} (ho : o.op = .fieldAddr t y f) (hT : P.underlying t = some (.struct fs)) (hf : fs[f]? = some fd) (hs : tSz P fd.type = some sz) (hpos : 0 < sz)
    (hy : OpdOk P e 0 y (.ptr id off)) : QEx P o e [] false (.ptr id (off + fd.offset)) :=
  .pure fun _ _ _ m bl hh ac w hws _ hr => by
    have h1 := hy.rep hr (by simp [ho, Op.operands])
    generalize hv : ac.eval y = v at h1
    cases h1 with
    | ptr hb =>
      rename_i b
      refine ⟨.pointer (some ⟨b, off + fd.offset, none⟩), ?_, .ptr hb⟩
      have : ¬ sz = 0 := by omega
      simp [execOp, ho, hv, Instr.fieldAt, run_underlying_of hT, hf, Instr.sureAddr, fieldPlace, run_sizeOf_of hs, this, addr_add]

theorem QEx.indexP {t y z E n sz k i id off} (ho : o.op = .indexAddr t y z) (hT : P.underlying t = some (.array n E)) (hs : tSz P E = some sz) (hy : OpdOk P e 0 y (.ptr id off))
    (hz : OpdOk P e 0 z (.v (.int k i))) (h0 : 0 ≤ i) (h1 : i < n) : QEx P o e [] false (.ptr id (off + i.toNat * sz)) :=
  .pure fun _ _ _ m bl hh ac w hws _ hr => by
    have r1 := hy.rep hr (by simp [ho, Op.operands])
    have r2 := (hz.rep hr (by simp [ho, Op.operands])).eq_v
    generalize hv : ac.eval y = v at r1
    cases r1 with
    | ptr hb =>
      rename_i b
      refine ⟨.pointer (some ⟨b, off + i.toNat * sz, none⟩), ?_, .ptr hb⟩
      simp [execOp, ho, hv, r2, Instr.indexAt, asIntOf, run_underlying_of hT, Instr.sureAddr, h0, h1, run_sizeOf_of hs, addr_add]

end
end Go.Cx
