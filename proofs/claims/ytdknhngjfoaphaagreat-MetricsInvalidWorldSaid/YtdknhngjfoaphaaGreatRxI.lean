/-
  Slices appended to, cleared and made; strings ranged over; functions as values; structs compared. Conditions: those named in each rule.
-/
import Derived.Test.YtdknhngjfoaphaaGreatRxH
import Derived.Deep.AppendSrc
import Derived.Laws.StructEq
import Derived.Lib.OthersKept
set_option linter.all false
namespace Go.Rx
open Go.RowKit

section
variable {P : Program} {o : Oper} {e : Env}

/-- What an append's second argument yields: the elements l2. -/
def SrcOk (P : Program) (o : Oper) (e : Env) (need : List (Nat × List AV)) (sz : Nat) (tz : TypeId) (z : Operand) (l2 : List AV) : Prop :=
  ∀ (B : Nat) (m0 : Mem) (h : Hp) (m : Mem) (bl : Names) (a : Act) (w : World), WSim B m0 h m bl w → (∀ p ∈ need, find p.1 h = some (.cells p.2)) → Reads o e m bl a →
    ∃ cs, Src P sz tz (a.eval z) l2.length cs w ∧ Reps m noNames (l2.flatMap AV.cells) cs ∧ (∀ x ∈ l2, x.cells.length = sz)
theorem SrcOk.sl {need sz tz z c l2 E} (hz : z ∈ o.op.operands) (ht : P.underlying tz = some (.slice E)) (h : OpdOk e z (.sl c sz l2)) : SrcOk P o e need sz tz z l2 := by
  intro B m0 hh m bl a w hws _ hr
  obtain ⟨ad, n, cap, cs, hv, hn, hc, el, reps, one, emp, -, at_⟩ := sl_cells (h.rep hr hz)
  have hlen : cs.length = l2.length * sz := by rw [← reps.length, flat_len el]
  refine ⟨cs, ?_, reps, el⟩
  rw [hv, hn]
  cases ad with
  | none =>
    obtain ⟨rfl, rfl⟩ := emp rfl
    have : cs = [] := List.eq_nil_of_length_eq_zero (by simpa using hlen)
    subst this
    exact .ofNil (w := w) ht 0
  | some a1 =>
    obtain ⟨q1, q2⟩ := at_ a1 rfl
    exact .ofSlice (w := w) ht a1 _ _ cs hlen (cells_at hws.imm q1 q2) one
theorem SrcOk.str {need tz z} {s : List UInt8} (hz : z ∈ o.op.operands) (ht : P.underlying tz = some .string) (h : OpdOk e z (.v (.string ⟨s.toArray⟩))) : SrcOk P o e need 1 tz z (s.map byteAV) := by
  intro B m0 hh m bl a w hws _ hr
  have h1 := (h.rep hr hz).eq_v
  have hs : (⟨s.toArray⟩ : ByteArray).size = s.length := by simp [ByteArray.size]
  have := Src.ofString (P := P) (w := w) ht ⟨s.toArray⟩
  rw [hs] at this
  refine ⟨_, by rw [h1, List.length_map]; exact this, ?_, by intro x hx; obtain ⟨b, -, rfl⟩ := List.mem_map.1 hx; rfl⟩
  rw [flat_bytes]
  have e2 : byteCells ⟨s.toArray⟩ = s.map fun b => Value.int .u8 b.toNat := by simp [byteCells]
  rw [e2]; exact Reps.of_bytes _
theorem SrcOk.row {need sz tz z id off len mc l l2 E} (hz : z ∈ o.op.operands) (ht : P.underlying tz = some (.slice E)) (h : OpdOk e z (.row id off len mc sz)) (hn : (id, l) ∈ need)
    (hl : l2.length = len) (he : ∀ x ∈ l2, x.cells.length = sz) (hc : l2.flatMap AV.cells = (l.drop off).take (len * sz)) (hb : allBare (l2.flatMap AV.cells) = true) (hfit : off + len * sz ≤ l.length) : SrcOk P o e need sz tz z l2 := by
  intro B m0 hh m bl a w hws hnd hr
  have h1 := h.rep hr hz
  generalize hv : a.eval z = v at h1
  cases h1 with
  | rownil =>
    rename_i ad
    have : l2 = [] := List.eq_nil_of_length_eq_zero hl
    subst this
    refine ⟨[], ?_, .nil, he⟩
    cases ad with
    | none => exact .ofNil (w := w) ht 0
    | some a1 => exact .ofSlice (w := w) ht a1 0 0 [] (by simp) (by simp) (by simp)
  | row hb' g1 g2 g3 =>
    obtain ⟨arr, T, pre, rest, q1, q2, q3, q4, q5⟩ := hws.at_ (show find id hh = some (ABlk.cells l) from hnd _ hn) hb'
    have hlen := q4.length
    have hl2 : ((pre.drop off).take (len * sz)).length = len * sz := by simp; omega
    refine ⟨(pre.drop off).take (len * sz), ?_, ?_, he⟩
    · rw [hl]
      refine .ofSlice (w := w) ht _ _ _ _ hl2 (fun j u hj => ?_) (fun u hu => q5 u (List.mem_of_mem_drop (List.mem_of_mem_take hu)))
      rw [addr_add, cell_of_blk q1]
      exact pre_get q3 (take_drop_get hj)
    · have := ((q4.drop off).take (len * sz)).bare (bl' := noNames)
      rw [← hc, bareL, bareL_of hb] at this
      exact this

theorem SrcOk.rw {need sz tz z id l2 E} (hz : z ∈ o.op.operands) (ht : P.underlying tz = some (.slice E)) (h : OpdOk e z (.rw id sz)) (hn : (id, l2.flatMap AV.cells) ∈ need) (hp : 0 < sz)
    (he : ∀ x ∈ l2, x.cells.length = sz) (hb : allBare (l2.flatMap AV.cells) = true) : SrcOk P o e need sz tz z l2 := by
  intro B m0 hh m bl a w hws hnd hr
  have h1 := h.rep hr hz
  have hfl := flat_len he
  have hf := hnd _ hn
  generalize hv : a.eval z = v at h1
  cases h1 with
  | rwnil hb' =>
    rename_i ad
    have : l2 = [] := by
      rcases hws.blk id _ hf with ⟨-, g⟩ | ⟨b, n, arr, T, pre, rest, g1, -⟩
      · rw [show (l2.flatMap AV.cells) = [] from g] at hfl
        rcases Nat.mul_eq_zero.1 (show l2.length * sz = 0 by rw [← hfl]; rfl) with h | h
        · exact List.eq_nil_of_length_eq_zero h
        · omega
      · rw [g1] at hb'; cases hb'
    subst this
    refine ⟨[], ?_, .nil, he⟩
    cases ad with
    | none => exact .ofNil (w := w) ht 0
    | some a1 => exact .ofSlice (w := w) ht a1 0 0 [] (by simp) (by simp) (by simp)
  | rw hb' g1 g2 g3 =>
    rename_i b n cap len
    obtain ⟨arr, T, pre, rest, q1, q2, q3, q4, q5⟩ := hws.at_ hf hb'
    have hlen := q4.length
    have hn2 : n.2 = pre.length := by rw [← q2]
    have : len = l2.length := Nat.eq_of_mul_eq_mul_right hp (by rw [g1, hn2, ← hlen, hfl])
    subst this
    refine ⟨pre, ?_, ?_, he⟩
    · refine .ofSlice (w := w) ht _ _ _ _ (by rw [← hlen, hfl]) (fun j u hj => ?_) (fun u hu => q5 u hu)
      rw [addr_add, cell_of_blk q1, Nat.zero_add]
      exact pre_get q3 hj
    · have := q4.bare (bl' := noNames)
      rwa [bareL, bareL_of hb] at this

theorem run_append2 {t tz y z} (ho : o.op = .call { callee := .builtin .append, args := #[y, z], argTypes := #[t, tz] }) {a : Act} {v : Value} {w w' : World}
    (h : (Builtin.append_ #[t, tz] o.type #[a.eval y, a.eval z]).run P w = .ok v w') : (execOp a.eval o).run P w = .ok (.value v) w' := by
  unfold execOp
  simp only [ho, resolve, invoke, builtin, Sem.run_bind, Sem.run_pure, Result.andThen_ok, List.map_toArray, List.map_cons, List.map_nil, h]

/-- Nothing is appended. -/
theorem run_append_zero {t tz E sz by_ ty n cap} {x : Value} {w : World} (ht : ElemT P t E sz by_) (hs : Src P sz tz x 0 [] w) (ad : Option Addr) (hc : n ≤ cap) :
    (Builtin.append_ #[t, tz] ty #[.slice ad n cap, x]).run P w = .ok (.slice ad n cap) w := by
  rcases hs.kind with ⟨e', hk⟩ | hk <;> cases ad <;> simp [Builtin.append_, run_underlying_of ht.under, run_underlying_of hk, run_sizeOf_of ht.sz, hs.len, hs.cells, hc, storeCells]

/-- What was appended to a slice whose capacity is its length. -/
theorem QEx.appI {t tz y z E sz by_ l need l2} (ho : o.op = .call { callee := .builtin .append, args := #[y, z], argTypes := #[t, tz] }) (ht : ElemT P t E sz by_) (hy : OpdOk e y (.sl true sz l)) (hz : SrcOk P o e need sz tz z l2)
    (hlen : (l.length + l2.length) * by_ ≤ 140737488355328) (h63 : l.length + l2.length ≤ 9223372036854775807) : QEx P o e need (.sl false sz (l ++ l2)) := by
  intro B m0 hp m bl a w hws hB hn hr next Q k
  obtain ⟨ad, n, cap, cs, hv, hn1, hc, el, reps, one, emp, hcap, at_⟩ := sl_cells (hy.rep hr (by simp [ho, Op.operands, Call.operands]))
  obtain rfl := hcap rfl
  subst hn1
  obtain ⟨cs2, src, reps2, el2⟩ := hz B m0 hp m bl a w hws hn hr
  obtain ⟨i, zv, hi1, hi2, hi3, hi4, hi5, hi6⟩ := ht.info
  have hlen1 : cs.length = l.length * sz := by rw [← reps.length, flat_len el]
  have elA : ∀ x ∈ l ++ l2, x.cells.length = sz := by intro x hx; rcases List.mem_append.1 hx with h | h <;> first | exact el x h | exact el2 x h
  have oneA : ∀ c ∈ cs ++ cs2, oneCell c = true := by intro x hx; rcases List.mem_append.1 hx with h | h <;> first | exact one x h | exact src.one x h
  have repsA : Reps m noNames ((l ++ l2).flatMap AV.cells) (cs ++ cs2) := by rw [List.flatMap_append]; exact reps.append reps2
  unfold Oper.wp
  by_cases h0 : l2.length = 0
  · have hl2 : l2 = [] := List.eq_nil_of_length_eq_zero h0
    subst hl2
    have : cs2 = [] := List.eq_nil_of_length_eq_zero (by have := src.newsLen; simpa using this)
    subst this
    rw [run_append2 ho (v := a.eval y) (w' := w) (by rw [hv]; exact run_append_zero ht src ad (Nat.le_refl _)), Oper.upon_value]
    refine k _ w m (Mem.le.refl m) (Below.refl _ _) hws ?_
    rw [List.append_nil]
    exact Sub.cap m bl _ (hy.rep hr (by simp [ho, Op.operands, Call.operands]))
  · have hold : (Builtin.firstCells i.size l.length (.slice ad l.length l.length)).run P w.drew = .ok cs.toArray w.drew := by
      cases ad with
      | none =>
        obtain ⟨rfl, -⟩ := emp rfl
        have : cs = [] := List.eq_nil_of_length_eq_zero (by simpa using hlen1)
        subst this
        exact run_firstCells_none (P := P) w.drew _ _ _ _
      | some a1 =>
        obtain ⟨q1, q2⟩ := at_ a1 rfl
        exact run_firstCells_some (P := P) w.drew i.size l.length a1 _ _ cs (by rw [hi3]; exact hlen1) (by simpa using cells_at hws.imm q1 q2)
    have hrun := run_append_grow_src (P := P) w t tz o.type E i zv ht.under hi1 hi2 ad l.length l.length cs hold (a.eval z) l2.length cs2 (by rw [hi3]; exact src) (by omega) (by omega)
      (by rw [hi4]; exact growslice_fits (by omega) hlen)
    rw [run_append2 ho (v := _) (w' := _) (by rw [hv]; exact hrun), Oper.upon_value]
    obtain ⟨hs, hle⟩ := hws.newBlk (w' := w.drew.alloc (.cells ((cs ++ cs2).toArray ++ Builtin.zeroCells zv.cells (grownCap w (l.length + l2.length) l.length E - (l.length + l2.length))) E)) (T := E) (fr := (0, 0)) hB rfl (cs := cs ++ cs2)
      (fun j v e => by
        have hj : j < (cs ++ cs2).length := by
          rcases Nat.lt_or_ge j (cs ++ cs2).length with h | h
          · exact h
          · rw [List.getElem?_eq_none h] at e; cases e
        rw [Array.getElem?_append_left (by simpa using hj)]
        simpa using e)
    refine k _ _ _ hle (((Below.refl _ _).drew).alloc (Nat.le_refl _) _) hs ?_
    have := Rep.sl (m := addBlk m w.heap.size (cs ++ cs2)) (bl := bl) (c := false) (sz := sz) (a := ⟨w.heap.size, 0, none⟩) (cap := grownCap w (l.length + l2.length) l.length E) elA (repsA.mono hle) oneA (fun _ => rfl)
      (fun j v e => by simp only [Nat.zero_add]; rw [addBlk_at]; exact e) (by simpa using grownCap_ge w _ _ E) (by simp)
    simpa using this

/-- What was appended to nothing: a block of the call's own. -/
theorem LEx.appN {ops : Array Oper} {N : Nat} {t tz y z E sz by_ l2 d nm need} (hg : o.guard = none) (hd : o.dst = some d) (hN : d < N) (ho : o.op = .call { callee := .builtin .append, args := #[y, z], argTypes := #[t, tz] }) (ht : ElemT P t E sz by_)
    (hy : OpdOk e y (.sl true sz [])) (hz : SrcOk P o e need sz tz z l2) (hlen : l2.length * by_ ≤ 140737488355328) (h63 : l2.length ≤ 9223372036854775807) :
    LEx P ops N o ⟨reOf e (o.looksAt ops), needH need, [(d, .rw nm sz)], [(nm, .cells (l2.flatMap AV.cells))], [nm]⟩ := by
  refine .ofA hg (fun d' h' => by rw [hd] at h'; cases h'; exact hN) ?_
  intro e2 s h f f' hre hrh hnm hf' N W0 m0 sa m bl a w S hdN next Q k
  have hR : Reads o e m bl a := fun t ht y hy => S.env t y (agree_looks hre t (operand_looks ht) y hy)
  obtain ⟨ad, n, cap, cs, hv, hn1, hc, el, reps, one, emp, hcap, at_⟩ := sl_cells (hy.rep hR (by simp [ho, Op.operands, Call.operands]))
  obtain rfl := hcap rfl
  simp only [List.length_nil] at hn1
  subst hn1
  obtain ⟨cs2, src, reps2, el2⟩ := hz _ _ _ m bl a w S.ws (needH_mem.1 hrh) hR
  obtain ⟨i, zv, hi1, hi2, hi3, hi4, hi5, hi6⟩ := ht.info
  have hfree : bl nm = none := S.free nm (hnm nm (by simp))
  unfold Oper.wp
  by_cases h0 : l2.length = 0
  · have hl2 : l2 = [] := List.eq_nil_of_length_eq_zero h0
    subst hl2
    have : cs2 = [] := List.eq_nil_of_length_eq_zero (by have := src.newsLen; simpa using this)
    subst this
    rw [run_append2 ho (v := a.eval y) (w' := w) (by rw [hv]; exact run_append_zero ht src ad (Nat.le_refl _)), Oper.upon_value]
    have hext : ∀ id x, bl id = some x → (fun i => if i = nm then some Bnd.nil else bl i : Names) id = some x := by
      intro id x e
      show (if _ then _ else _) = _
      rw [if_neg]; exact e
      rintro rfl; rw [hfree] at e; cases e
    have hback : ∀ id b n, (if id = nm then some Bnd.nil else bl id) = some (.blk b n) → bl id = some (.blk b n) := by
      intro id b n e
      split at e
      · cases e
      · exact e
    refine k _ _ w m (fun i => if i = nm then some .nil else bl i) rfl ⟨?_, ?_, S.below, ⟨S.ws.imm, S.ws.le, S.ws.grow, ?_, ?_, fun id b n e => S.ws.own id b n (hback id b n e), fun id id' b n n' e e' => S.ws.inj id id' b n n' (hback id b n e) (hback id' b n' e')⟩, ?_, S.stk.widen hext, ?_⟩
    · simp [Act.put, hd, S.defers]
    · simp [Act.put, hd, S.size]
    · intro id l hf
      simp only [List.singleton_append] at hf
      rw [find_cons] at hf
      split at hf
      · rename_i hk; subst hk; cases hf; exact .inl ⟨by simp, rfl⟩
      · rcases S.ws.blk id l hf with ⟨g1, g2⟩ | ⟨b, n, arr, T, pre, rest, g1, g2, g3, g4, g5, g6⟩
        · exact .inl ⟨hext _ _ g1, g2⟩
        · exact .inr ⟨b, n, arr, T, pre, rest, hext _ _ g1, g2, g3, g4, g5.widen hext, g6⟩
    · intro id x p hf
      simp only [List.singleton_append] at hf
      rw [find_cons] at hf
      split at hf
      · cases hf
      · obtain ⟨b, n, g1, g2⟩ := S.ws.it id x p hf
        exact ⟨b, n, hext _ _ g1, g2⟩
    · rw [hd, hv]; exact EnvRep.put (S.env.widen hext) (.rwnil (by simp)) (by rw [S.size]; exact hdN d hd)
    · intro d' hd'
      obtain ⟨g1, g2⟩ := hf' d' hd'
      show (if _ then _ else _) = _
      rw [if_neg (by simpa using g2)]; exact S.free d' g1
  · have hold : (Builtin.firstCells i.size 0 (.slice ad 0 0)).run P w.drew = .ok (#[] : Array Value) w.drew := by
      cases ad with
      | none => exact run_firstCells_none (P := P) w.drew _ _ _ _
      | some a1 => exact run_firstCells_some (P := P) w.drew i.size 0 a1 _ _ [] (by simp) (by simp)
    have hrun := run_append_grow_src (P := P) w t tz o.type E i zv ht.under hi1 hi2 ad 0 0 [] hold (a.eval z) l2.length cs2 (by rw [hi3]; exact src) (by omega) (by omega)
      (by rw [hi4]; exact growslice_fits (by omega) (by rw [Nat.zero_add]; exact hlen))
    rw [run_append2 ho (v := _) (w' := _) (by rw [hv]; exact hrun), Oper.upon_value]
    simp only [Nat.zero_add, List.nil_append]
    generalize hcap2 : grownCap w l2.length 0 E = cap'
    have hge : l2.length ≤ cap' := by rw [← hcap2]; exact grownCap_ge w _ _ E
    have hzs : (Builtin.zeroCells zv.cells (cap' - l2.length)).size = (cap' - l2.length) * sz := by rw [size_zeroCells, hi5]
    have hbare : Reps m bl (l2.flatMap AV.cells) cs2 := reps2.widen (by simp [noNames])
    have hsz : (cs2.toArray ++ Builtin.zeroCells zv.cells (cap' - l2.length)).size = cap' * sz := by
      rw [Array.size_append, hzs, List.size_toArray, src.newsLen, ← Nat.add_mul]; congr 1; omega
    obtain ⟨q1, q2⟩ := S.ws.newOwn (w' := w.drew.alloc (.cells (cs2.toArray ++ Builtin.zeroCells zv.cells (cap' - l2.length)) E)) (d := nm) (arr := cs2.toArray ++ Builtin.zeroCells zv.cells (cap' - l2.length)) (T := E)
      (Z := l2.flatMap AV.cells) (pre := cs2) S.below.size hfree rfl (by rw [Array.toList_append]) hbare src.one
    rw [hsz] at q1 q2
    refine k _ _ _ m _ rfl ⟨?_, ?_, ((S.below.drew).alloc S.below.size _), q1, ?_, S.stk.widen q2, ?_⟩
    · simp [Act.put, hd, S.defers]
    · simp [Act.put, hd, S.size]
    · rw [hd]
      exact EnvRep.put (S.env.widen q2) (.rw (b := w.heap.size) (n := (cap' * sz, cs2.length)) (by simp [updN]) src.newsLen.symm hge (Nat.le_refl _)) (by rw [S.size]; exact hdN d hd)
    · intro d' hd'
      obtain ⟨g1, g2⟩ := hf' d' hd'
      unfold updN; rw [if_neg (by simpa using g2)]; exact S.free d' g1
end
end Go.Rx
