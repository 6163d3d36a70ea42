/-
  Calls; ghosts' steps: names go and are renamed, a block is written no more. Conditions: those named in each rule.
-/
import Derived.Test.YtdknhngjfoaphaaGreatRxF
set_option linter.all false
namespace Go.Rx
open Go.RowKit

/- Values that bear no memory. -/
mutual
def AV.flat : AV → Bool
  | .agg l => flatL l
  | .tup l => flatL l
  | .v _ => true
  | .undef => true
  | _ => false
def flatL : List AV → Bool
  | [] => true
  | x :: l => x.flat && flatL l
end
mutual
theorem Rep.flat {m m' bl bl'} : ∀ {x v}, x.flat = true → Rep m bl x v → Rep m' bl' x v
  | _, _, h, .undef => .undef
  | _, _, h, .v => .v
  | _, _, h, .agg k k1 => .agg (k.flat (by simpa [AV.flat] using h)) k1
  | _, _, h, .tup k => .tup (k.flat (by simpa [AV.flat] using h))
  | _, _, h, .slnil => by simp [AV.flat] at h
  | _, _, h, .sl _ _ _ _ _ _ _ => by simp [AV.flat] at h
  | _, _, h, .cptr _ _ _ => by simp [AV.flat] at h
  | _, _, h, .clo _ => by simp [AV.flat] at h
  | _, _, h, .ptr _ => by simp [AV.flat] at h
  | _, _, h, .rownil => by simp [AV.flat] at h
  | _, _, h, .row _ _ _ _ => by simp [AV.flat] at h
  | _, _, h, .opt _ _ => by simp [AV.flat] at h
  | _, _, h, .ifc _ => by simp [AV.flat] at h
theorem Reps.flat {m m' bl bl'} : ∀ {l vs}, flatL l = true → Reps m bl l vs → Reps m' bl' l vs
  | _, _, h, .nil => .nil
  | _, _, h, .cons k t => by
    simp only [flatL, Bool.and_eq_true] at h
    exact .cons (k.flat h.1) (t.flat h.2)
end

section
variable {P : Program} {o : Oper} {e : Env}

/-- What a call's end leaves of the caller's world. -/
theorem WSim.after {B m0 h m bl w w' m' hr bl'} (hws : WSim B m0 h m bl w) (hB : B ≤ w.heap.size) (hb' : Below w.heap.size w w') (hws' : WSim w.heap.size m hr m' bl' w') : WSim B m0 h m' bl w' := by
  refine ⟨hws'.imm, hws.le.trans hws'.le, ?_, ?_, ?_, ?_, hws.inj⟩
  · intro b o' v' e'
    rcases hws'.grow b o' v' e' with h | h
    · exact hws.grow b o' v' h
    · exact .inr (Nat.le_trans hB h)
  · intro id l hf
    rcases hws.blk id l hf with h | ⟨b, n, arr, T, pre, rest, g1, g2, g3, g4, g5, g6⟩
    · exact .inl h
    · exact .inr ⟨b, n, arr, T, pre, rest, g1, by rw [hb'.block b (hws.own id b n g1).2.1]; exact g2, g3, g4, g5.mono hws'.le, g6⟩
  · intro id s p hf
    obtain ⟨b, n, g1, g2⟩ := hws.it id s p hf
    exact ⟨b, n, g1, by rw [hb'.block b (hws.own id b n g1).2.1]; exact g2⟩
  · intro id b n g
    obtain ⟨g1, g2, g3⟩ := hws.own id b n g
    refine ⟨g1, Nat.lt_of_lt_of_le g2 hb'.size, fun o' => ?_⟩
    cases hm' : m' b o' with
    | none => rfl
    | some v' =>
      rcases hws'.grow b o' v' hm' with h | h
      · rw [g3] at h; cases h
      · omega

/-- Runs a pure call, whatever way it was entered. -/
theorem QEx.enter {need} {fn : FuncId} {ys : List AV} {r : AV} (H : ∀ (m : Mem) (bl : Names) (a : Act) (w : World), Reads o e m bl a → ∃ vs : List Value, (execOp a.eval o).run P w = .ok (.enter fn vs.toArray) w ∧ Reps m noNames ys vs)
    (hr : FnR P fn ys r []) (hb : r.isBare = true) : QEx P o e need r := by
  intro B m0 hp m bl a w hws hB _ hrd next Q k
  obtain ⟨vs, hrun, h1⟩ := H m bl a w hrd
  unfold Oper.wp
  rw [hrun, Oper.upon_enter]
  refine (hr w m vs hws.imm h1).mono ?_
  rintro en w' ⟨v, m', bl', rfl, hb', hws', hz, hrep⟩
  refine k v w' m' hws'.le hb' (hws.after hB hb' hws') ?_
  have := hrep.bare (bl' := bl)
  rwa [AV.bare, bare_of hb] at this

/-- Memory that own blocks lend: their first cells. -/
def lend (m : Mem) (bl : Names) : List (Nat × List Value) → Mem
  | [] => m
  | (id, pre) :: r => fun b o => match bl id with | some (.blk b' _) => if b = b' then pre[o]? else lend m bl r b o | _ => lend m bl r b o
theorem lend_le {B m0 h m bl w} (s : WSim B m0 h m bl w) : ∀ ls, Mem.le m (lend m bl ls)
  | [] => Mem.le.refl m
  | (id, pre) :: r => by
    intro b o v e
    simp only [lend]
    split
    · rename_i b' n hb
      rw [if_neg]
      · exact lend_le s r b o v e
      · rintro rfl; rw [(s.own id _ _ hb).2.2 o] at e; cases e
    · exact lend_le s r b o v e
theorem lend_src {m bl} : ∀ {ls b o v}, lend m bl ls b o = some v → m b o = some v ∨ ∃ id pre n, (id, pre) ∈ ls ∧ bl id = some (.blk b n) ∧ pre[o]? = some v
  | [], b, o, v, e => .inl e
  | (id, pre) :: r, b, o, v, e => by
    simp only [lend] at e
    have go : lend m bl r b o = some v → m b o = some v ∨ ∃ id' pre' n, (id', pre') ∈ (id, pre) :: r ∧ bl id' = some (.blk b n) ∧ pre'[o]? = some v := by
      intro e
      rcases lend_src e with h | ⟨i, p, n, h1, h2, h3⟩
      · exact .inl h
      · exact .inr ⟨i, p, n, List.mem_cons_of_mem _ h1, h2, h3⟩
    split at e
    · rename_i b' n hb
      split at e
      · rename_i he; subst he; exact .inr ⟨id, pre, n, by simp, hb, e⟩
      · exact go e
    · exact go e
/-- The own blocks 'ls' as they stand in memory. -/
def LentOk (m : Mem) (bl : Names) (w : World) (ls : List (Nat × List Value)) : Prop := ∀ p ∈ ls, ∀ b n, bl p.1 = some (.blk b n) → ∀ o v, p.2[o]? = some v → w.cell? ⟨b, o, none⟩ = some v

/-- A call whose arguments stand in own blocks, which it only reads; the result bears no memory. -/
theorem QEx.enterL {need} {fn : FuncId} {ys : List AV} {r : AV}
    (H : ∀ (B : Nat) (m0 : Mem) (h : Hp) (m : Mem) (bl : Names) (a : Act) (w : World), WSim B m0 h m bl w → (∀ p ∈ need, find p.1 h = some (.cells p.2)) → Reads o e m bl a →
      ∃ (ls : List (Nat × List Value)) (vs : List Value), (ls.map (·.1)).Nodup ∧ LentOk m bl w ls ∧ (execOp a.eval o).run P w = .ok (.enter fn vs.toArray) w ∧ Reps (lend m bl ls) noNames ys vs)
    (hr : FnR P fn ys r []) (hb : r.flat = true) : QEx P o e need r := by
  intro B m0 hp m bl a w hws hB hn hrd next Q k
  obtain ⟨ls, vs, hnd, hlo, hrun, h1⟩ := H B m0 hp m bl a w hws hn hrd
  unfold Oper.wp
  rw [hrun, Oper.upon_enter]
  have hle := lend_le hws ls
  have himm : Imm (lend m bl ls) w := by
    intro b o v e
    rcases lend_src e with h | ⟨id, pre, n, h1, h2, h3⟩
    · exact hws.imm b o v h
    · exact hlo _ h1 b n h2 o v h3
  refine (hr w _ vs himm h1).mono ?_
  rintro en w' ⟨v, m', bl', rfl, hb', hws', hz, hrep⟩
  -- what was lent goes back
  let m2 : Mem := fun b o => if b < w.heap.size then m b o else m' b o
  have hm2 : Mem.le m m2 := by
    intro b o v e
    show (if _ then _ else _) = _
    rw [if_pos (hws.imm.lt e)]; exact e
  refine k v w' m2 hm2 hb' ⟨?_, hws.le.trans hm2, ?_, ?_, ?_, ?_, hws.inj⟩ (hrep.flat hb)
  · intro b o v e
    change (if _ then _ else _) = _ at e
    split at e
    · exact hws'.imm b o v (hws'.le b o v (hle b o v e))
    · exact hws'.imm b o v e
  · intro b o v e
    change (if _ then _ else _) = _ at e
    split at e
    · exact hws.grow b o v e
    · exact .inr (by omega)
  · intro id l hf
    rcases hws.blk id l hf with h | ⟨b, n, arr, T, pre, rest, g1, g2, g3, g4, g5, g6⟩
    · exact .inl h
    · exact .inr ⟨b, n, arr, T, pre, rest, g1, by rw [hb'.block b (hws.own id b n g1).2.1]; exact g2, g3, g4, g5.mono hm2, g6⟩
  · intro id s p hf
    obtain ⟨b, n, g1, g2⟩ := hws.it id s p hf
    exact ⟨b, n, g1, by rw [hb'.block b (hws.own id b n g1).2.1]; exact g2⟩
  · intro id b n g
    obtain ⟨g1, g2, g3⟩ := hws.own id b n g
    refine ⟨g1, Nat.lt_of_lt_of_le g2 hb'.size, fun o' => ?_⟩
    show (if _ then _ else _) = _
    rw [if_pos g2]; exact g3 o'

/-- The result's own blocks get names from b on. -/
def shH (b : Nat) (hr : Hp) : Hp := hr.map fun p => (p.1 + b, p.2)
theorem find_shH {b t : Nat} : ∀ {hr : Hp}, find t (shH b hr) = if b ≤ t then find (t - b) hr else none
  | [] => by simp [shH, find]
  | (k, x) :: r => by
    have ih := find_shH (b := b) (t := t) (hr := r)
    show find t ((k + b, x) :: shH b r) = _
    rw [find_cons, ih]
    by_cases hk : k + b = t
    · rw [if_pos hk, if_pos (by omega), find_cons, if_pos (by omega)]
    · rw [if_neg hk]
      split
      · rw [find_cons, if_neg (by omega)]
      · rfl
/-- A call whose result owns new blocks. -/
theorem LEx.enterO {ops : Array Oper} {N : Nat} {fn : FuncId} {ys : List AV} {r : AV} {hr : Hp} {d : Nat} (b : Nat) (hg : o.guard = none) (hd : o.dst = some d) (hN : d < N)
    (H : ∀ (m : Mem) (bl : Names) (a : Act) (w : World), Reads o e m bl a → ∃ vs : List Value, (execOp a.eval o).run P w = .ok (.enter fn vs.toArray) w ∧ Reps m noNames ys vs)
    (hf : FnR P fn ys r hr) (hc : ∀ p ∈ hr, ∃ l, p.2 = .cells l ∧ allBare l = true) :
    LEx P ops N o ⟨reOf e (o.looksAt ops), [], [(d, r.re fun i => some (i + b))], shH b hr, (shH b hr).map (·.1)⟩ := by
  refine .ofA hg (fun d' h' => by rw [hd] at h'; cases h'; exact hN) ?_
  intro e2 s h f f' hre _ hnm hf' N W0 m0 sa m bl a w S hdN next Q k
  obtain ⟨vs, hrun, h1⟩ := H m bl a w (fun t ht y hy => S.env t y (agree_looks hre t (operand_looks ht) y hy))
  unfold Oper.wp
  rw [hrun, Oper.upon_enter]
  refine (hf w m vs S.ws.imm h1).mono ?_
  rintro en w' ⟨v, m', bl', rfl, hb', hws', hz, hrep⟩
  let bl2 : Names := fun id => match find id (shH b hr) with | some _ => bl' (id - b) | none => bl id
  have mem_of : ∀ {id : Nat} {l : Hp}, (∃ y, find id l = some y) → id ∈ l.map (·.1) := by
    intro id l
    induction l with
    | nil => rintro ⟨y, h⟩; simp [find] at h
    | cons p l ih =>
      rintro ⟨y, h⟩
      obtain ⟨k', z⟩ := p
      rw [find_cons] at h
      split at h
      · simp_all
      · exact List.mem_cons_of_mem _ (ih ⟨y, h⟩)
  have hfree : ∀ id y, find id (shH b hr) = some y → bl id = none := fun id y hy => S.free id (hnm id (mem_of ⟨y, hy⟩))
  have hold : ∀ id x, bl id = some x → bl2 id = some x := by
    intro id x hx
    show (match find id (shH b hr) with | some _ => bl' (id - b) | none => bl id) = _
    cases hq : find id (shH b hr) with
    | none => exact hx
    | some y => rw [hfree id y hq] at hx; cases hx
  have hnew : ∀ id x, bl' id = some x → bl2 (id + b) = some x := by
    intro id x hx
    show (match find (id + b) (shH b hr) with | some _ => bl' (id + b - b) | none => bl (id + b)) = _
    have : find (id + b) (shH b hr) ≠ none := by
      rw [find_shH, if_pos (by omega), Nat.add_sub_cancel]
      intro hn; rw [hz id hn] at hx; cases hx
    cases hq : find (id + b) (shH b hr) with
    | none => exact absurd hq this
    | some y => simpa using hx
  have hcase : ∀ id x, bl2 id = some x → bl id = some x ∨ ∃ i, id = i + b ∧ bl' i = some x := by
    intro id x hx
    change (match find id (shH b hr) with | some _ => bl' (id - b) | none => bl id) = _ at hx
    cases hq : find id (shH b hr) with
    | none => rw [hq] at hx; exact .inl hx
    | some y =>
      rw [hq] at hx
      rw [find_shH] at hq
      split at hq
      · exact .inr ⟨id - b, by omega, hx⟩
      · cases hq
  have hws2 := S.ws.after S.below.size hb' hws'
  refine k _ _ _ m' bl2 rfl ⟨?_, ?_, Below.base S.below hb', ⟨hws'.imm, hws2.le, hws2.grow, ?_, ?_, ?_, ?_⟩, ?_, (S.stk.mono hws'.le).widen hold, ?_⟩
  · simp [Act.put, hd, S.defers]
  · simp [Act.put, hd, S.size]
  · intro id l hf2
    cases hq : find id (shH b hr) with
    | none =>
      have hf3 : find id h = some (.cells l) := by rw [find_append_none hq] at hf2; exact hf2
      rcases hws2.blk id l hf3 with ⟨g1, g2⟩ | ⟨b', n, arr, T, pre, rest, g1, g2, g3, g4, g5, g6⟩
      · refine .inl ⟨?_, g2⟩
        show (match find id (shH b hr) with | some _ => bl' (id - b) | none => bl id) = _
        rw [hq]; exact g1
      · exact .inr ⟨b', n, arr, T, pre, rest, hold _ _ g1, g2, g3, g4, g5.widen hold, g6⟩
    | some y =>
      have hf3 := find_append_some (b := h) hq
      rw [hf2] at hf3; cases hf3
      rw [find_shH] at hq
      split at hq
      · rename_i hle
        have hbare : allBare l = true := by
          have : ∀ {hr : Hp} {i}, find i hr = some (.cells l) → ∃ p ∈ hr, p.2 = .cells l := by
            intro hr; induction hr with
            | nil => intro i h; simp [find] at h
            | cons p hr ih =>
              intro i h
              obtain ⟨k', z⟩ := p
              rw [find_cons] at h
              split at h
              · cases h; exact ⟨_, List.mem_cons_self, rfl⟩
              · obtain ⟨p, hp, h2⟩ := ih h; exact ⟨p, List.mem_cons_of_mem _ hp, h2⟩
          obtain ⟨p, hp, h2⟩ := this hq
          obtain ⟨l', h3, h4⟩ := hc p hp
          rw [h2] at h3; cases h3; exact h4
        rcases hws'.blk (id - b) l hq with ⟨g1, g2⟩ | ⟨b', n, arr, T, pre, rest, g1, g2, g3, g4, g5, g6⟩
        · refine .inl ⟨?_, g2⟩
          have hq2 : find id (shH b hr) = some (.cells l) := by rw [find_shH, if_pos hle]; exact hq
          show (match find id (shH b hr) with | some _ => bl' (id - b) | none => bl id) = _
          rw [hq2]; exact g1
        · refine .inr ⟨b', n, arr, T, pre, rest, ?_, g2, g3, g4, ?_, g6⟩
          · have := hnew _ _ g1
            rwa [Nat.sub_add_cancel hle] at this
          · have := g5.bare (bl' := bl2)
            rwa [bareL, bareL_of hbare] at this
      · cases hq
  · intro id s' p hf2
    cases hq : find id (shH b hr) with
    | none =>
      have hf3 : find id h = some (.iter s' p) := by rw [find_append_none hq] at hf2; exact hf2
      obtain ⟨b', n, g1, g2⟩ := hws2.it id s' p hf3
      exact ⟨b', n, hold _ _ g1, g2⟩
    | some y =>
      have hf3 := find_append_some (b := h) hq
      rw [hf2] at hf3; cases hf3
      rw [find_shH] at hq
      split at hq
      · exfalso
        have : ∀ {hr : Hp} {i}, find i hr = some (.iter s' p) → ∃ q ∈ hr, q.2 = .iter s' p := by
          intro hr; induction hr with
          | nil => intro i h; simp [find] at h
          | cons q hr ih =>
            intro i h
            obtain ⟨k', z⟩ := q
            rw [find_cons] at h
            split at h
            · cases h; exact ⟨_, List.mem_cons_self, rfl⟩
            · obtain ⟨q, hq, h2⟩ := ih h; exact ⟨q, List.mem_cons_of_mem _ hq, h2⟩
        obtain ⟨q, hq, h2⟩ := this hq
        obtain ⟨l', h3, -⟩ := hc q hq
        rw [h2] at h3; cases h3
      · cases hq
  · intro id b' n g
    rcases hcase id _ g with q | ⟨i, -, q⟩
    · exact hws2.own id b' n q
    · obtain ⟨g1, g2, g3⟩ := hws'.own i b' n q
      exact ⟨Nat.le_trans S.below.size g1, g2, g3⟩
  · intro id id' b' n n' g g'
    rcases hcase id _ g with q | ⟨i, hi, q⟩
    · rcases hcase id' _ g' with q' | ⟨i', hi', q'⟩
      · exact S.ws.inj id id' b' n n' q q'
      · have h1 := (S.ws.own id b' n q).2.1
        have h2 := (hws'.own i' b' n' q').1
        omega
    · rcases hcase id' _ g' with q' | ⟨i', hi', q'⟩
      · have h1 := (S.ws.own id' b' n' q').2.1
        have h2 := (hws'.own i b' n q).1
        omega
      · rw [hi, hi', hws'.inj i i' b' n n' q q']
  · rw [hd]
    refine EnvRep.put ((S.env.mono hws'.le).widen hold) (hrep.re ?_) (by rw [S.size]; exact hdN d hd)
    intro i i' he x hx
    cases he; exact hnew i x hx
  · intro d' hd'
    obtain ⟨g1, g2⟩ := hf' d' hd'
    show (match find d' (shH b hr) with | some _ => bl' (d' - b) | none => bl d') = _
    cases hq : find d' (shH b hr) with
    | none => exact S.free d' g1
    | some y => exact absurd (mem_of ⟨y, hq⟩) g2

/-- How a call is entered: the callee's function with what it has captured. -/
theorem run_enter {f : FuncId} {caps : List AV} {y : Operand} {args : Array Operand} {tys : Array TypeId} {xs : List AV} (ho : o.op = .call { callee := .value y, args, argTypes := tys })
    (hc : ∀ (vs : Array Value) (w : World), (callFunc f vs).run P w = .ok (.enter f vs) w) (hy : OpdOk e y (.clo f caps)) (hx : OpdsOk e args.toList xs) {m bl a} (w : World) (hrd : Reads o e m bl a) :
    ∃ vs : List Value, (execOp a.eval o).run P w = .ok (.enter f vs.toArray) w ∧ Reps m bl (xs ++ caps) vs := by
  have h1 := hx.reps (o := o) hrd (fun y hy => by rw [ho]; simp only [Op.operands, Call.operands]; exact Array.mem_append.2 (.inr (by simpa using hy)))
  have h2 := hy.rep hrd (by rw [ho]; simp [Op.operands, Call.operands])
  generalize hv : a.eval y = v at h2
  cases h2 with
  | clo h3 =>
    rename_i cs
    refine ⟨args.toList.map a.eval ++ cs, ?_, h1.append h3⟩
    have ha : (args.toList.map a.eval ++ cs).toArray = args.map a.eval ++ cs.toArray := by
      rw [← List.append_toArray]; congr 1; exact Array.ext' (by rw [Array.toList_map])
    rw [ha]
    simp [execOp, ho, resolve, hv, Deferred.ofValue, invoke, hc]

/-- A call that is walked in the caller's own state. -/
theorem AEx.inl {L : LS} {K : LS → Prop} {f : FuncId} {fn : Func} {c : Code} {N2 d : Nat} {caps xs : List AV} {y : Operand} {args : Array Operand} {tys : Array TypeId}
    (ho : o.op = .call { callee := .value y, args, argTypes := tys }) (hd : o.dst = some d) (hf : P.funcs[f]? = some fn) (hb : fn.body = some c) (hN : fn.ntmps = N2)
    (hc : ∀ (vs : Array Value) (w : World), (callFunc f vs).run P w = .ok (.enter f vs) w) (hy : OpdOk L.e y (.clo f caps)) (hx : OpdsOk L.e args.toList xs) (hn : (xs ++ caps).length ≤ N2)
    (h : Wp P N2 c (fun ex L2 => (ex = .normal ∨ ex = .ret) ∧ ∃ xs e0 s0, RessOk P L2 fn.results.toList xs ∧ L2.s = e0 :: s0 ∧ K ⟨(d, tupleOf xs) :: e0, s0, L2.h, L2.f⟩) ⟨envFrom 0 (xs ++ caps), L.e :: L.s, L.h, L.f⟩) : AEx P o L K := by
  intro N W0 m0 sa m bl a w S hdN next Q k
  obtain ⟨vs, hrun, h1⟩ := run_enter (P := P) ho hc hy hx w (fun t _ y hf => S.env t y hf)
  unfold Oper.wp
  rw [hrun, Oper.upon_enter]
  refine calls_of_wp hf hb ?_
  have hlen := h1.length
  have s0 : Sim N2 W0 m0 ⟨envFrom 0 (xs ++ caps), L.e :: L.s, L.h, L.f⟩ (a.tmps :: sa) { tmps := vs.toArray ++ Array.replicate (fn.ntmps - vs.toArray.size) undef, defers := [] } w m bl :=
    ⟨rfl, by simp; omega, S.below, S.ws, .args h1 _, ⟨S.env, S.stk⟩, S.free⟩
  refine h _ _ _ _ _ _ _ s0 _ ?_
  rintro ex L2 a' w' m' bl' ⟨hex, ys, e0, st, hxs, hs, hk⟩ s'
  obtain ⟨v, hv1, hv2⟩ := RessOk.results s' hxs
  have hstk := s'.stk
  rw [hs] at hstk
  have hfin : next (a.put o.dst v) w' := by
    refine k _ _ w' m' bl' hk ⟨?_, ?_, s'.below, s'.ws, ?_, hstk.2, s'.free⟩
    · simp [Act.put, hd, S.defers]
    · simp [Act.put, hd, S.size]
    · rw [hd]; exact EnvRep.put hstk.1 hv2 (by rw [S.size]; exact hdN d hd)
  rcases hex with rfl | rfl <;> exact ⟨s'.defers, v, hv1, hfin⟩
end
end Go.Rx
