/-
  The operations on immutable memory, pure calls, slices made and appended to. Conditions: those named in each rule.
-/
import Derived.Test.YtblkmlpjhpgkjaaCxD
set_option linter.all false
namespace Go.Cx
open Go.RowKit

theorem flat_len {l : List AV} {sz : Nat} (h : ∀ e ∈ l, e.cells.length = sz) : (l.flatMap AV.cells).length = l.length * sz := by
  induction l with
  | nil => simp
  | cons x l ih =>
    simp only [List.flatMap_cons, List.length_append, List.length_cons, h x (by simp), ih fun e he => h e (by simp [he])]
    rw [Nat.add_mul]; omega

theorem flat_drop {sz : Nat} : ∀ {l : List AV} (n : Nat), (∀ e ∈ l, e.cells.length = sz) → (l.flatMap AV.cells).drop (n * sz) = (l.drop n).flatMap AV.cells
  | [], n, h => by simp
  | x :: l, 0, h => by simp
  | x :: l, n + 1, h => by
    have hx := h x (by simp)
    rw [List.flatMap_cons, List.drop_succ_cons, ← flat_drop n fun e he => h e (by simp [he])]
    have : (n + 1) * sz = x.cells.length + n * sz := by rw [hx, Nat.add_mul]; omega
    rw [this, ← List.drop_drop, List.drop_left]

theorem flat_take {sz : Nat} : ∀ {l : List AV} (n : Nat), (∀ e ∈ l, e.cells.length = sz) → (l.flatMap AV.cells).take (n * sz) = (l.take n).flatMap AV.cells
  | [], n, h => by simp
  | x :: l, 0, h => by simp
  | x :: l, n + 1, h => by
    have hx := h x (by simp)
    rw [List.flatMap_cons, List.take_succ_cons, List.flatMap_cons, ← flat_take n fun e he => h e (by simp [he])]
    have : (n + 1) * sz = x.cells.length + n * sz := by rw [hx, Nat.add_mul]; omega
    rw [this, List.take_append, List.take_of_length_le (by omega)]
    congr 2; omega

theorem flat_at {sz : Nat} {l : List AV} {n : Nat} {e : AV} (h : ∀ e ∈ l, e.cells.length = sz) (hn : l[n]? = some e) : ((l.flatMap AV.cells).drop (n * sz)).take sz = e.cells := by
  rw [flat_drop n h]
  have hlt : n < l.length := by
    rcases Nat.lt_or_ge n l.length with h | h
    · exact h
    · simp [List.getElem?_eq_none h] at hn
  have he : l[n] = e := by rw [List.getElem?_eq_getElem hlt] at hn; simpa using hn
  rw [List.drop_eq_getElem_cons hlt, List.flatMap_cons, he]
  have := h e (by rw [← he]; exact List.getElem_mem hlt)
  rw [← this, List.take_left]

theorem take_drop_get {α} {cs : List α} {i k j : Nat} {v : α} (h : ((cs.drop i).take k)[j]? = some v) : cs[i + j]? = some v := by
  rw [List.getElem?_take] at h
  split at h
  · simpa using h
  · simp at h

section
variable {P : Program} {o : Oper} {e : Env}

theorem run_underlying_of {t d} (h : P.underlying t = some d) (w : World) : (underlying t).run P w = .ok d w := by simp [underlying, h]

theorem QEx.indexAddr {t y z E sz tk l k i x} (ho : o.op = .indexAddr t y z) (hT : P.underlying t = some (.slice E)) (hsz : tSz P E = some sz) (hpos : 0 < sz)
    (hy : OpdOk P e t y (.sl tk sz l)) (hz : OpdOk P e 0 z (.v (.int k i))) (h0 : 0 ≤ i) (hi : l[i.toNat]? = some x) : QEx P o e [] false (.cptr x.cells) :=
  .pure fun _ _ _ m bl hh ac w hws _ hr => by
    have h1 := hy.rep hr (by simp [ho, Op.operands])
    have h2 := (hz.rep hr (by simp [ho, Op.operands])).eq_v
    generalize hv : ac.eval y = v at h1
    have hlt : i.toNat < l.length := by
      rcases Nat.lt_or_ge i.toNat l.length with h | h
      · exact h
      · simp [List.getElem?_eq_none h] at hi
    cases h1 with
    | slnil => simp at hlt
    | sl g1 g2 g3 g4 g5 g6 g7 =>
      rename_i a cap cs
      have hlen := g2.length
      rw [flat_len g1] at hlen
      have hcs : 0 < cs.length := by rw [← hlen]; exact Nat.mul_pos (by omega) hpos
      have hsp := g4 hcs
      obtain ⟨b, off, sp⟩ := a
      simp only at hsp; subst hsp
      refine ⟨.pointer (some ⟨b, off + i.toNat * sz, none⟩), ?_, ?_⟩
      · have hi' : i < (l.length : Int) := by omega
        simp [execOp, ho, hv, h2, Instr.indexAt, asIntOf, run_underlying_of hT, h0, hi', run_sizeOf_of hsz, addr_add]
      · refine .cptr (cs := (cs.drop (i.toNat * sz)).take sz) ?_ ?_ ?_
        · have := (g2.drop (i.toNat * sz)).take sz
          rwa [flat_at g1 hi] at this
        · exact fun c hc => g3 c (List.mem_of_mem_drop (List.mem_of_mem_take hc))
        · intro j v hj
          have := g5 _ v (take_drop_get hj)
          rw [Nat.add_assoc]; exact this

theorem QEx.loadAgg {t y l} (ho : o.op = .load t y) (ha : tAg P t = some true) (hs : tSz P t = some l.length) (hy : OpdOk P e 0 y (.cptr l)) : QEx P o e [] false (.agg l) :=
  .pure fun _ _ _ m bl hh ac w hws _ hr => by
    have h1 := hy.rep hr (by simp [ho, Op.operands])
    generalize hv : ac.eval y = v at h1
    cases h1 with
    | cptr g1 g2 g3 =>
      rename_i b off cs
      refine ⟨.agg cs.toArray, ?_, .agg (g1.widen (by simp [noNames]) (by simp [noSpare])) g2⟩
      have := run_loadVar_agg (P := P) (ty := t) (cs := cs) (w := w) (b := b) (o := off) ha (by rw [hs, g1.length]) fun j v hj => hws.imm _ _ _ (g3 j v hj)
      simp [execOp, ho, hv, Instr.loadAt, Instr.sureAddr, this]

theorem QEx.load1 {t y x} (ho : o.op = .load t y) (ha : tAg P t = some false) (hy : OpdOk P e 0 y (.cptr [x])) : QEx P o e [] false x :=
  .pure fun _ _ _ m bl hh ac w hws _ hr => by
    have h1 := hy.rep hr (by simp [ho, Op.operands])
    generalize hv : ac.eval y = v at h1
    cases h1 with
    | cptr g1 g2 g3 =>
      rename_i b off cs
      obtain ⟨v, hv1, hv2⟩ := g1.get 0 x rfl
      refine ⟨v, ?_, hv2.widen (by simp [noNames]) (by simp [noSpare])⟩
      have hc := hws.imm _ _ _ (g3 0 v hv1)
      simp [execOp, ho, hv, Instr.loadAt, Instr.sureAddr, run_loadVar_one ha (by simpa using hc)]

/-- A field's address behind a pointer into immutable memory. -/
theorem QEx.fieldC {t y f l fs fd sz} (ho : o.op = .fieldAddr t y f) (hT : P.underlying t = some (.struct fs)) (hf : fs[f]? = some fd) (hs : tSz P fd.type = some sz) (hpos : 0 < sz)
    (hy : OpdOk P e 0 y (.cptr l)) : QEx P o e [] false (.cptr ((l.drop fd.offset).take sz)) :=
  .pure fun _ _ _ m bl hh ac w hws _ hr => by
    have h1 := hy.rep hr (by simp [ho, Op.operands])
    generalize hv : ac.eval y = v at h1
    cases h1 with
    | cptr g1 g2 g3 =>
      rename_i b off cs
      refine ⟨.pointer (some ⟨b, off + fd.offset, none⟩), ?_, .cptr (cs := (cs.drop fd.offset).take sz) ((g1.drop _).take _) (fun c hc => g2 c (List.mem_of_mem_drop (List.mem_of_mem_take hc))) ?_⟩
      · have : ¬ sz = 0 := by omega
        simp [execOp, ho, hv, Instr.fieldAt, run_underlying_of hT, hf, Instr.sureAddr, fieldPlace, run_sizeOf_of hs, this, addr_add]
      · intro j v hj
        rw [Nat.add_assoc]
        exact g3 _ v (take_drop_get hj)

/-- A field of a struct's value. -/
theorem QEx.field {t y f l fs fd sz b} (ho : o.op = .field t y f) (hT : P.underlying t = some (.struct fs)) (hf : fs[f]? = some fd) (hs : tSz P fd.type = some sz) (ha : tAg P fd.type = some b)
    (hy : OpdOk P e 0 y (.agg l)) {x : AV} (hx : (b = true ∧ x = .agg ((l.drop fd.offset).take sz)) ∨ (b = false ∧ l[fd.offset]? = some x)) : QEx P o e [] false x :=
  .pure fun _ _ _ m bl hh ac w hws _ hr => by
    have h1 := hy.rep hr (by simp [ho, Op.operands])
    generalize hv : ac.eval y = v at h1
    cases h1 with
    | agg g1 g2 =>
      rename_i cs
      rcases hx with ⟨rfl, rfl⟩ | ⟨rfl, hx⟩
      · refine ⟨.agg ((cs.drop fd.offset).take sz).toArray, ?_, .agg ((g1.drop _).take _) fun c hc => g2 c (List.mem_of_mem_drop (List.mem_of_mem_take hc))⟩
        simp only [execOp, ho, hv]
        simp [Instr.field, run_underlying_of hT, hf, asAgg, part, run_isAgg_of ha, run_sizeOf_of hs]
      · obtain ⟨v, hv1, hv2⟩ := g1.get _ x hx
        refine ⟨v, ?_, hv2⟩
        simp only [execOp, ho, hv]
        simp [Instr.field, run_underlying_of hT, hf, asAgg, part, run_isAgg_of ha, hv1]


/-- A pure call. -/
inductive OpdsOk (P : Program) (e : Env) : List Operand → List AV → Prop
  | nil : OpdsOk P e [] []
  | cons {y x ys xs} : OpdOk P e 0 y x → OpdsOk P e ys xs → OpdsOk P e (y :: ys) (x :: xs)

theorem OpdsOk.reps {ys xs} (h : OpdsOk P e ys xs) {m bl hh a} (hr : Reads o e m bl hh a) (hx : ∀ y ∈ ys, y ∈ o.op.operands) : Reps m bl hh xs (ys.map a.eval) := by
  induction h with
  | nil => exact .nil
  | cons h _ ih => exact .cons (h.rep hr (hx _ (by simp))) (ih fun y hy => hx y (by simp [hy]))

theorem QEx.call {f : FuncId} {args : Array Operand} {tys : Array TypeId} {xs ys : List AV} {r : AV} (ho : o.op = .call { callee := .value (.func f), args, argTypes := tys })
    (hc : ∀ (vs : Array Value) (w : World), (callFunc f vs).run P w = .ok (.enter f vs) w) (hx : OpdsOk P e args.toList xs) (hy : bareL xs = ys) (h : FnR P f ys r) {d : Nat} (hd : o.dst = some d) :
    QEx P o e [] true (r.retok d) := by
  intro B m0 hp m bl hh a w hws hB hn hr hcr next Q k
  subst hy
  have h1 := hx.reps (o := o) hr (fun y hy => by rw [ho]; simp only [Op.operands, Call.operands]; exact Array.mem_append.2 (.inr (by simpa using hy)))
  have hrun : (execOp a.eval o).run P w = .ok (.enter f (args.map a.eval)) w := by
    simp [execOp, ho, resolve, Act.eval, invoke, hc, Deferred.ofValue]
  unfold Oper.wp
  rw [hrun, Oper.upon_enter]
  have := h w m (args.toList.map a.eval) hws.imm h1.bare
  have ha : (args.toList.map a.eval).toArray = args.map a.eval := Array.ext' (by rw [Array.toList_map])
  rw [ha] at this
  refine this.mono ?_
  rintro en w' ⟨v, m', hr', rfl, hb, hws', hz, hrep⟩
  simp only
  have hfree := hcr rfl d hd
  have hlt : ∀ (k : Tok) s, hh k = some s → s.1 < w.heap.size := by
    intro k s hs
    obtain ⟨b, f', t⟩ := s
    obtain ⟨-, ⟨arr, T, hh1, -⟩, -⟩ := hws.spare k b f' t hs
    rcases Nat.lt_or_ge b w.heap.size with h | h
    · exact h
    · simp [Array.getElem?_eq_none h] at hh1
  have hold : ∀ (t : Tok) s, hh t = some s → t.1 ≠ d := by
    intro t s hs ht
    have := hfree t.2; rw [← ht] at this; rw [this] at hs; cases hs
  refine k v w' m' (fun t => if t.1 = d then hr' (0, t.2) else hh t) hws'.le hb ⟨hws'.imm, hws.le.trans hws'.le, ?_, ?_, ?_, ?_, hws.inj, ?_⟩ ?_ ?_ ?_
  · intro b o' v' e'
    rcases hws'.grow b o' v' e' with h | h
    · exact hws.grow b o' v' h
    · exact .inr (Nat.le_trans hB h)
  · intro id l hf
    obtain ⟨b, arr, T, g1, g2, g3, g4⟩ := hws.blk id l hf
    have hbl := (hws.own id b g1).2.1
    exact ⟨b, arr, T, g1, by rw [hb.block b hbl]; exact g2, (g3.mono hws'.le).widen (fun _ _ e => e) (fun t s hs => by simpa [hold t s hs] using hs), g4⟩
  · intro id s p hf
    obtain ⟨b, g1, g2⟩ := hws.it id s p hf
    exact ⟨b, g1, by rw [hb.block b (hws.own id b g1).2.1]; exact g2⟩
  · intro id b g
    obtain ⟨g1, g2, g3⟩ := hws.own id b g
    refine ⟨g1, Nat.lt_of_lt_of_le g2 hb.size, fun o' => ?_⟩
    cases hm' : m' b o' with
    | none => rfl
    | some v' =>
      rcases hws'.grow b o' v' hm' with h | h
      · rw [g3] at h; cases h
      · omega
  · intro t b f' top hs
    by_cases ht : t.1 = d
    · simp only [ht, if_true] at hs
      obtain ⟨g1, g2, g3, g4, g5⟩ := hws'.spare _ _ _ _ hs
      refine ⟨Nat.le_trans hB g1, g2, g3, fun id he => ?_, fun k' s' hk' hs' => ?_⟩
      · have := (hws.own id b he).2.1; omega
      · by_cases hk : k'.1 = d
        · simp only [hk, if_true] at hk'
          have := g5 (0, k'.2) s' hk' hs'
          simp at this
          exact Prod.ext (by omega) this
        · simp only [hk, if_false] at hk'
          have := hlt k' s' hk'; omega
    · simp only [ht, if_false] at hs
      obtain ⟨g1, ⟨arr, T, g2, g2'⟩, g3, g4, g5⟩ := hws.spare _ _ _ _ hs
      have hbl := hlt t _ hs
      refine ⟨g1, ⟨arr, T, by rw [hb.block b hbl]; exact g2, g2'⟩, fun o' ho' => ?_, g4, fun k' s' hk' hs' => ?_⟩
      · cases hm' : m' b o' with
        | none => rfl
        | some v' =>
          rcases hws'.grow b o' v' hm' with h | h
          · rw [g3 o' ho'] at h; cases h
          · simp only at hbl; omega
      · by_cases hk : k'.1 = d
        · simp only [hk, if_true] at hk'
          obtain ⟨b', f2, t2⟩ := s'
          have := (hws'.spare _ _ _ _ hk').1
          simp only at hs' hbl; omega
        · simp only [hk, if_false] at hk'
          exact g5 k' s' hk' hs'
  · intro t s hs
    simpa [hold t s hs] using hs
  · intro t ht
    have := ht rfl d hd
    simp [this]
  · refine hrep.re (by simp [noNames]) ?_
    intro t t' e s hs
    simp at e; subst e
    have := hz t s hs
    show (if d = d then hr' (0, t.2) else hh (d, t.2)) = some s
    rw [if_pos rfl, ← hs]
    exact congrArg hr' (Prod.ext this.symm rfl)

end
end Go.Cx
