/-
  What an abstract state stands for; what it means that an operation, a region, a piece of code, a function keeps to it. No conditions.
-/
import Derived.Test.YtdknhngjfoaphaaGreatRxA
set_option linter.all false
namespace Go.Rx
open Go.RowKit

inductive ABlk where
  | cells (l : List AV)
  | iter (s : ByteArray) (pos : Nat)
  deriving Inhabited

def find {α : Type} (t : Nat) : List (Nat × α) → Option α
  | [] => none
  | (k, x) :: r => match Nat.beq k t with | true => some x | false => find t r
theorem find_cons {α : Type} {t k : Nat} {x : α} {r : List (Nat × α)} : find t ((k, x) :: r) = if k = t then some x else find t r := by
  simp only [find]
  by_cases h : k = t
  · subst h; simp
  · simp [h, Nat.beq_eq]
    split
    · rename_i hh; exact absurd (Nat.eq_of_beq_eq_true hh) h
    · rfl
theorem find_append_none {α : Type} {t : Nat} : ∀ {a b : List (Nat × α)}, find t a = none → find t (a ++ b) = find t b
  | [], _, _ => rfl
  | (k, x) :: a, b, h => by
    rw [find_cons] at h
    rw [List.cons_append, find_cons]
    split at h
    · cases h
    · rw [if_neg ‹_›]; exact find_append_none h
theorem find_append_some {α : Type} {t : Nat} {y : α} : ∀ {a b : List (Nat × α)}, find t a = some y → find t (a ++ b) = some y
  | [], _, h => by simp [find] at h
  | (k, x) :: a, b, h => by
    rw [find_cons] at h
    rw [List.cons_append, find_cons]
    split at h
    · rw [if_pos ‹_›]; exact h
    · rw [if_neg ‹_›]; exact find_append_some h

abbrev Env := List (Nat × AV)
abbrev Hp := List (Nat × ABlk)

/-- The slots; the callers' slots; the own blocks; the names that nothing bears. -/
structure LS where
  e : Env
  s : List Env
  h : Hp
  f : Nat → Prop

def LS.put (L : LS) (d : Option Nat) (x : AV) : LS :=
  match d with
  | some d => { L with e := (d, x) :: L.e }
  | none => L

/-- An own block's cells: the block's first ones. -/
def OwnAt (m : Mem) (bl : Names) (w : World) (id : Nat) (l : List AV) : Prop :=
  ∃ b n arr T pre rest, bl id = some (.blk b n) ∧ w.heap[b]? = some (.cells arr T (0, 0)) ∧ (arr.size, pre.length) = n ∧ arr.toList = pre ++ rest ∧ Reps m bl l pre ∧ (∀ c ∈ pre, oneCell c = true)

structure WSim (B : Nat) (m0 : Mem) (h : Hp) (m : Mem) (bl : Names) (w : World) : Prop where
  imm : Imm m w
  le : Mem.le m0 m
  grow : ∀ b o v, m b o = some v → m0 b o = some v ∨ B ≤ b
  blk : ∀ id l, find id h = some (.cells l) → (bl id = some .nil ∧ l = []) ∨ OwnAt m bl w id l
  it : ∀ id s p, find id h = some (.iter s p) → ∃ b n, bl id = some (.blk b n) ∧ w.heap[b]? = some (.stringIter s p)
  own : ∀ id b n, bl id = some (.blk b n) → B ≤ b ∧ b < w.heap.size ∧ (∀ o, m b o = none)
  inj : ∀ id id' b n n', bl id = some (.blk b n) → bl id' = some (.blk b n') → id = id'

def EnvRep (m : Mem) (bl : Names) (e : Env) (ts : Array Value) : Prop := ∀ t x, find t e = some x → Rep m bl x (ts.getD t undef)
def Stk (m : Mem) (bl : Names) : List Env → List (Array Value) → Prop
  | [], [] => True
  | e :: s, t :: r => EnvRep m bl e t ∧ Stk m bl s r
  | _, _ => False

theorem EnvRep.mono {m m' bl e ts} (hm : Mem.le m m') (h : EnvRep m bl e ts) : EnvRep m' bl e ts := fun t x k => (h t x k).mono hm
theorem EnvRep.widen {m bl bl' e ts} (hb : ∀ id b, bl id = some b → bl' id = some b) (h : EnvRep m bl e ts) : EnvRep m bl' e ts := fun t x k => (h t x k).widen hb
theorem Stk.mono {m m' bl} (hm : Mem.le m m') : ∀ {s r}, Stk m bl s r → Stk m' bl s r
  | [], [], _ => trivial
  | _ :: _, _ :: _, h => ⟨h.1.mono hm, h.2.mono hm⟩
theorem Stk.widen {m bl bl'} (hb : ∀ id b, bl id = some b → bl' id = some b) : ∀ {s r}, Stk m bl s r → Stk m bl' s r
  | [], [], _ => trivial
  | _ :: _, _ :: _, h => ⟨h.1.widen hb, h.2.widen hb⟩

structure Sim (N : Nat) (W0 : World) (m0 : Mem) (L : LS) (sa : List (Array Value)) (a : Act) (w : World) (m : Mem) (bl : Names) : Prop where
  defers : a.defers = []
  size : a.tmps.size = N
  below : Below W0.heap.size W0 w
  ws : WSim W0.heap.size m0 L.h m bl w
  env : EnvRep m bl L.e a.tmps
  stk : Stk m bl L.s sa
  free : ∀ d, L.f d → bl d = none

/-- A call: on what 'args' stands for, f returns what 'r' stands for; nothing that was there turns. hr: the new blocks that the result owns. -/
def FnR (P : Program) (f : FuncId) (args : List AV) (r : AV) (hr : Hp) : Prop :=
  ∀ (w : World) (m : Mem) (vs : List Value), Imm m w → Reps m noNames args vs →
    Calls P f vs.toArray w fun e w' => ∃ v m' bl', e = .returned v ∧ Below w.heap.size w w' ∧ WSim w.heap.size m hr m' bl' w' ∧ (∀ id, find id hr = none → bl' id = none) ∧ Rep m' bl' r v

/-- What the types of a program say, in closed form. -/
def tSz (P : Program) (t : TypeId) : Option Nat := (P.info? t).map (·.size)
def isAggD : TypeDesc → Bool
  | .struct _ => true
  | .array _ _ => true
  | _ => false
def tAg (P : Program) (t : TypeId) : Option Bool := (P.underlying t).map isAggD

theorem run_isAgg_of {P : Program} {t : TypeId} {b : Bool} (h : tAg P t = some b) (w : World) : (isAgg t).run P w = .ok b w := by
  unfold tAg at h
  cases hu : P.underlying t with
  | none => simp [hu] at h
  | some d =>
    simp [hu] at h
    subst h
    unfold isAgg underlying
    cases d <;> simp [hu, isAggD]
theorem run_sizeOf_of {P : Program} {t : TypeId} {n : Nat} (h : tSz P t = some n) (w : World) : (sizeOf t).run P w = .ok n w := by
  unfold tSz at h
  cases hu : P.info? t with
  | none => simp [hu] at h
  | some d => simp [hu] at h; subst h; simp [sizeOf, typeInfo, hu]
theorem addr_add (b o n : Nat) : (⟨b, o, none⟩ : Addr).add n = ⟨b, o + n, none⟩ := by unfold Addr.add; split <;> simp_all
theorem run_loadVar_agg {P : Program} {ty : TypeId} {cs : List Value} {w : World} {b o : Nat} (ha : tAg P ty = some true) (hs : tSz P ty = some cs.length)
    (h : ∀ j v, cs[j]? = some v → w.cell? ⟨b, o + j, none⟩ = some v) : (loadVar ty ⟨b, o, none⟩).run P w = .ok (.agg cs.toArray) w := by
  have hl := run_loadCells_list (P := P) w ⟨b, o, none⟩ cs (fun j v hv => by rw [addr_add]; exact h j v hv)
  simp [loadVar, run_isAgg_of ha, run_sizeOf_of hs, hl]
theorem run_loadVar_one {P : Program} {ty : TypeId} {v : Value} {w : World} {a : Addr} (ha : tAg P ty = some false) (h : w.cell? a = some v) : (loadVar ty a).run P w = .ok v w := by
  simp [loadVar, run_isAgg_of ha, h]
theorem run_underlying_of {P : Program} {t d} (h : P.underlying t = some d) (w : World) : (underlying t).run P w = .ok d w := by simp [underlying, h]
theorem cell_of_blk {w : World} {b j : Nat} {arr : Array Value} {T fr} (h : w.heap[b]? = some (.cells arr T fr)) : w.cell? ⟨b, j, none⟩ = arr[j]? := by
  simp [World.cell?, h]
theorem pre_get {arr : Array Value} {pre rest : List Value} (h : arr.toList = pre ++ rest) {j : Nat} {v : Value} (e : pre[j]? = some v) : arr[j]? = some v := by
  rw [← Array.getElem?_toList, h, List.getElem?_append_left]
  · exact e
  · rcases Nat.lt_or_ge j pre.length with h | h
    · exact h
    · simp [List.getElem?_eq_none h] at e

/-! operands -/

/-- The operand stands for x wherever the slots stand for e. -/
def OpdOk (e : Env) (y : Operand) (x : AV) : Prop :=
  ∀ (m : Mem) (bl : Names) (a : Act), (∀ t, y = .tmp t → ∀ z, find t e = some z → Rep m bl z (a.tmps.getD t undef)) → Rep m bl x (a.eval y)
def Reads (o : Oper) (e : Env) (m : Mem) (bl : Names) (a : Act) : Prop :=
  ∀ t, Operand.tmp t ∈ o.op.operands → ∀ y, find t e = some y → Rep m bl y (a.tmps.getD t undef)
theorem OpdOk.rep {e y x} (h : OpdOk e y x) {o : Oper} {m bl a} (hr : Reads o e m bl a) (hx : y ∈ o.op.operands) : Rep m bl x (a.eval y) :=
  h m bl a fun t ht z hz => hr t (ht ▸ hx) z hz

theorem Rep.eq_v {m bl x y} (h : Rep m bl (.v x) y) : y = x := by
  generalize hz : AV.v x = z at h
  cases h <;> cases hz
  rfl
theorem Rep.eq_opt {m bl c x y} (h : Rep m bl (.opt c x) y) : (c = true → Rep m bl x y) ∧ (c = false → y = Go.undef) := by
  generalize hz : AV.opt c x = z at h
  cases h <;> cases hz
  exact ⟨‹_›, ‹_›⟩

/-- A quiet operation: it yields 'x', reads its operands and the own blocks 'need'. -/
def QEx (P : Program) (o : Oper) (e : Env) (need : List (Nat × List AV)) (x : AV) : Prop :=
  ∀ (B : Nat) (m0 : Mem) (h : Hp) (m : Mem) (bl : Names) (a : Act) (w : World), WSim B m0 h m bl w → B ≤ w.heap.size → (∀ p ∈ need, find p.1 h = some (.cells p.2)) → Reads o e m bl a →
    ∀ (next : Act → World → Prop) (Q : Exit → Act → World → Prop),
      (∀ v w' m', Mem.le m m' → Below w.heap.size w w' → WSim B m0 h m' bl w' → Rep m' bl x v → next (a.put o.dst v) w') → o.wp P a w next Q

theorem QEx.pure {P : Program} {o : Oper} {e : Env} {need : List (Nat × List AV)} {x : AV}
    (H : ∀ (B : Nat) (m0 : Mem) (h : Hp) (m : Mem) (bl : Names) (a : Act) (w : World), WSim B m0 h m bl w → (∀ p ∈ need, find p.1 h = some (.cells p.2)) → Reads o e m bl a →
      ∃ v, (execOp a.eval o).run P w = .ok (.value v) w ∧ Rep m bl x v) : QEx P o e need x := by
  intro B m0 h m bl a w hws hB hn hr next Q k
  obtain ⟨v, h1, h2⟩ := H B m0 h m bl a w hws hn hr
  unfold Oper.wp
  rw [h1, Oper.upon_value]
  exact k v w m (Mem.le.refl m) (Below.refl _ _) hws h2

/-- Any operation, in the text's order: it ends in a state that K holds of. -/
def AEx (P : Program) (o : Oper) (L : LS) (K : LS → Prop) : Prop :=
  ∀ N W0 m0 sa m bl a w, Sim N W0 m0 L sa a w m bl → (∀ d, o.dst = some d → d < N) → ∀ (next : Act → World → Prop) (Q : Exit → Act → World → Prop),
    (∀ L' a' w' m' bl', K L' → Sim N W0 m0 L' sa a' w' m' bl' → next a' w') → o.wp P a w next Q

theorem getD_set (l : Array Value) (d t : Nat) (v : Value) (hd : d < l.size) : (l.setIfInBounds d v).getD t undef = if d = t then v else l.getD t undef := by
  rw [Array.getD_eq_getD_getElem?, Array.getD_eq_getD_getElem?, Array.getElem?_setIfInBounds]
  by_cases h : d = t
  · subst h; simp [hd]
  · simp [h]
theorem EnvRep.put {m bl e a x v d} (h : EnvRep m bl e a.tmps) (hx : Rep m bl x v) (hd : d < a.tmps.size) : EnvRep m bl ((d, x) :: e) (Act.put a (some d) v).tmps := by
  intro t y hf
  rw [find_cons] at hf
  simp only [Act.put]
  rw [getD_set _ _ _ _ hd]
  split at hf
  · rename_i hk; subst hk; simp at hf; subst hf; simpa using hx
  · rename_i hk; rw [if_neg hk]; exact h t y hf
theorem Below.base {W0 w w' : World} (h : Below W0.heap.size W0 w) (h2 : Below w.heap.size w w') : Below W0.heap.size W0 w' := h.trans (h2.mono h.size)

/-- A region's operations in the text's order. -/
def GoT (P : Program) (ops : Array Oper) (N : Nat) (rest : List Oper) (K : LS → Prop) (L : LS) : Prop :=
  ∀ W0 m0 sa m bl a w, Sim N W0 m0 L sa a w m bl → ∀ Q : Exit → Act → World → Prop,
    (∀ L' a' w' m' bl', K L' → Sim N W0 m0 L' sa a' w' m' bl' → Q .normal a' w') → wpList P ops Q rest a w
theorem GoT.nil {P ops N K L} (h : K L) : GoT P ops N [] K L := fun _ _ _ _ _ _ _ s _ hq => hq _ _ _ _ _ h s
theorem GoT.act {P ops N o rest K L K'} (hg : o.guard = none) (hd : ∀ d, o.dst = some d → d < N) (h : AEx P o L K') (k : ∀ L', K' L' → GoT P ops N rest K L') : GoT P ops N (o :: rest) K L := by
  intro W0 m0 sa m bl a w s Q hq
  simp only [wpList, Region.wanted, hg, if_true]
  exact .inl (h N W0 m0 sa m bl a w s hd _ _ fun L' a' w' m' bl' hk s' => k L' hk _ _ _ _ _ _ _ s' Q hq)

theorem yielded_slot {ops : Array Oper} {tmps : Array Value} {j s : Nat} {b : Bool} (hj : (ops[j]?).bind (·.dst) = some s) (hv : tmps.getD s undef = .bool b) : yielded ops tmps j = some b := by
  unfold yielded
  rw [hj]
  have : tmps[s]? = some (.bool b) := by
    rw [Array.getD_eq_getD_getElem?] at hv
    cases h : tmps[s]? with
    | none => rw [h] at hv; simp [undef] at hv
    | some x => rw [h] at hv; simp at hv; rw [hv]
  simp [this]
theorem yielded_undef {ops : Array Oper} {tmps : Array Value} {j s : Nat} (hj : (ops[j]?).bind (·.dst) = some s) (hv : tmps.getD s undef = undef) : yielded ops tmps j = none := by
  unfold yielded
  rw [hj]
  rw [Array.getD_eq_getD_getElem?] at hv
  cases h : tmps[s]? with
  | none => simp [h]
  | some x => rw [h] at hv; simp [undef] at hv; simp [h, hv]

/-- Slot s yields the bool t where c holds. -/
def GV (e : Env) (s : Nat) (c t : Bool) : Prop := (find s e = some (.v (.bool t)) ∧ c = true) ∨ find s e = some (.opt c (.v (.bool t)))
/-- Which operation is wanted: where its guard yields what it waits for. -/
theorem GV.wanted {e s c t} (h : GV e s c t) {o : Oper} {ops : Array Oper} {j want} (hg : o.guard = some (j, want)) (hj : (ops[j]?).bind (·.dst) = some s) {m bl ts} (he : EnvRep m bl e ts) :
    Region.wanted o (yielded ops ts) = (c && (t == want)) := by
  simp only [Region.wanted, hg]
  rcases h with ⟨h, rfl⟩ | h
  · have hv : ts.getD s undef = .bool t := (he s _ h).eq_v
    rw [yielded_slot hj hv]
    cases t <;> cases want <;> rfl
  · obtain ⟨h1, h2⟩ := (he s _ h).eq_opt
    cases c with
    | false => rw [yielded_undef hj (h2 rfl)]; rfl
    | true =>
      have hv : ts.getD s undef = .bool t := (h1 rfl).eq_v
      rw [yielded_slot hj hv]
      cases t <;> cases want <;> rfl

/-- What an operation reads and writes: slots, own blocks, names used up. -/
structure Loc where
  re : Env
  rh : Hp
  we : Env
  wh : Hp
  nm : List Nat

def LEx (P : Program) (ops : Array Oper) (N : Nat) (o : Oper) (c : Loc) : Prop :=
  ∀ (e : Env) (s : List Env) (h : Hp) (f f' : Nat → Prop), (∀ p ∈ c.re, find p.1 e = some p.2) → (∀ p ∈ c.rh, find p.1 h = some p.2) → (∀ d ∈ c.nm, f d) → (∀ y, f' y → f y ∧ y ∉ c.nm) →
    ∀ W0 m0 sa m bl a w, Sim N W0 m0 ⟨e, s, h, f⟩ sa a w m bl → ∀ (next : Act → World → Prop) (Q : Exit → Act → World → Prop),
      (∀ a' w' m' bl', Sim N W0 m0 ⟨c.we ++ e, s, c.wh ++ h, f'⟩ sa a' w' m' bl' → next a' w') →
      if Region.wanted o (yielded ops a.tmps) then o.wp P a w next Q else next (a.put o.dst undef) w

/-- In the text's order too. -/
theorem LEx.text {P ops N o c rest K} {e : Env} {s : List Env} {h : Hp} {f f' : Nat → Prop} (l : LEx P ops N o c) (hre : ∀ p ∈ c.re, find p.1 e = some p.2) (hrh : ∀ p ∈ c.rh, find p.1 h = some p.2)
    (hn : ∀ d ∈ c.nm, f d) (hf : ∀ y, f' y → f y ∧ y ∉ c.nm) (k : GoT P ops N rest K ⟨c.we ++ e, s, c.wh ++ h, f'⟩) : GoT P ops N (o :: rest) K ⟨e, s, h, f⟩ := by
  intro W0 m0 sa m bl a w S Q hq
  have := l e s h f f' hre hrh hn hf W0 m0 sa m bl a w S (wpList P ops Q rest) Q (fun a' w' m' bl' S' => k _ _ _ _ _ _ _ S' Q hq)
  simp only [wpList]
  split
  · rw [if_pos ‹_›] at this; exact .inl this
  · rw [if_neg ‹_›] at this; exact this

def reOf (e : Env) : List Nat → Env
  | [] => []
  | t :: ts => match find t e with
    | some y => (t, y) :: reOf e ts
    | none => reOf e ts
theorem reOf_mem {e : Env} : ∀ {ts : List Nat}, (∀ p ∈ reOf e ts, find p.1 e = some p.2) ∧ (∀ t ∈ ts, ∀ y, find t e = some y → (t, y) ∈ reOf e ts)
  | [] => by simp [reOf]
  | t :: ts => by
    have ih := reOf_mem (e := e) (ts := ts)
    simp only [reOf]
    cases hf : find t e with
    | none =>
      refine ⟨ih.1, fun t' ht y hy => ?_⟩
      rcases List.mem_cons.1 ht with rfl | ht
      · rw [hf] at hy; cases hy
      · exact ih.2 t' ht y hy
    | some z =>
      refine ⟨fun p hp => ?_, fun t' ht y hy => ?_⟩
      · rcases List.mem_cons.1 hp with rfl | hp
        · exact hf
        · exact ih.1 p hp
      · rcases List.mem_cons.1 ht with rfl | ht
        · rw [hf] at hy; cases hy; simp
        · exact List.mem_cons_of_mem _ (ih.2 t' ht y hy)
theorem agree_looks {ops : Array Oper} {o : Oper} {e e2 : Env} (h : ∀ p ∈ reOf e (o.looksAt ops), find p.1 e2 = some p.2) : ∀ t ∈ o.looksAt ops, ∀ y, find t e = some y → find t e2 = some y :=
  fun t ht y hy => h (t, y) (reOf_mem.2 t ht y hy)
theorem operand_looks {ops : Array Oper} {o : Oper} {t : Nat} (h : Operand.tmp t ∈ o.op.operands) : t ∈ o.looksAt ops := by
  unfold Oper.looksAt
  refine List.mem_append.2 (.inl ?_)
  refine List.mem_filterMap.2 ⟨.tmp t, by simpa using h, rfl⟩
theorem guard_looks {ops : Array Oper} {o : Oper} {j : Nat} {w : Bool} {s : Nat} (hg : o.guard = some (j, w)) (hj : (ops[j]?).bind (·.dst) = some s) : s ∈ o.looksAt ops := by
  unfold Oper.looksAt
  refine List.mem_append.2 (.inr ?_)
  rw [hg]; simp [hj]

def needH (need : List (Nat × List AV)) : Hp := need.map fun p => (p.1, .cells p.2)
theorem needH_mem {need : List (Nat × List AV)} {h : Hp} : (∀ p ∈ needH need, find p.1 h = some p.2) ↔ ∀ p ∈ need, find p.1 h = some (.cells p.2) := by
  unfold needH
  constructor
  · intro k p hp; exact k (p.1, .cells p.2) (List.mem_map.2 ⟨p, hp, rfl⟩)
  · intro k p hp; obtain ⟨q, hq, rfl⟩ := List.mem_map.1 hp; exact k q hq

theorem LEx.q {P ops N o e need x d} (hg : o.guard = none) (q : QEx P o e need x) (hd : o.dst = some d) (hN : d < N) : LEx P ops N o ⟨reOf e (o.looksAt ops), needH need, [(d, x)], [], []⟩ := by
  intro e2 s h f f' hre hrh hn hf W0 m0 sa m bl a w S next Q k
  rw [if_pos (by simp [Region.wanted, hg])]
  refine q W0.heap.size m0 h m bl a w S.ws S.below.size (needH_mem.1 hrh) (fun t ht y hy => S.env t y (agree_looks hre t (operand_looks ht) y hy)) next Q ?_
  intro v w' m' hm hb hws hr
  refine k _ w' m' bl ⟨?_, ?_, Below.base S.below hb, hws, ?_, S.stk.mono hm, fun d' hd' => S.free d' (hf d' hd').1⟩
  · simp [Act.put, hd, S.defers]
  · simp [Act.put, hd, S.size]
  · rw [hd]; exact (S.env.mono hm).put hr (by rw [S.size]; exact hN)

/-- A quiet operation without a destination. -/
theorem LEx.qn {P ops N o e need x} (hg : o.guard = none) (q : QEx P o e need x) (hd : o.dst = none) : LEx P ops N o ⟨reOf e (o.looksAt ops), needH need, [], [], []⟩ := by
  intro e2 s h f f' hre hrh hn hf W0 m0 sa m bl a w S next Q k
  rw [if_pos (by simp [Region.wanted, hg])]
  refine q W0.heap.size m0 h m bl a w S.ws S.below.size (needH_mem.1 hrh) (fun t ht y hy => S.env t y (agree_looks hre t (operand_looks ht) y hy)) next Q ?_
  intro v w' m' hm hb hws hr
  refine k _ w' m' bl ⟨?_, ?_, Below.base S.below hb, hws, ?_, S.stk.mono hm, fun d' hd' => S.free d' (hf d' hd').1⟩
  · simp [Act.put, hd, S.defers]
  · simp [Act.put, hd, S.size]
  · rw [hd]; exact S.env.mono hm

/-- Under a guard. -/
theorem LEx.g {P ops N o e need x d j want sl c t} (hg : o.guard = some (j, want)) (hj : (ops[j]?).bind (·.dst) = some sl) (hs : GV e sl c t)
    (q : (c && (t == want)) = true → QEx P o e need x) (hd : o.dst = some d) (hN : d < N) :
    LEx P ops N o ⟨reOf e (o.looksAt ops), needH need, [(d, .opt (c && (t == want)) x)], [], []⟩ := by
  intro e2 s h f f' hre hrh hn hf W0 m0 sa m bl a w S next Q k
  have hs2 : GV e2 sl c t := by
    rcases hs with ⟨h1, h2⟩ | h1
    · exact .inl ⟨agree_looks hre sl (guard_looks hg hj) _ h1, h2⟩
    · exact .inr (agree_looks hre sl (guard_looks hg hj) _ h1)
  rw [hs2.wanted hg hj S.env]
  by_cases hw : (c && (t == want)) = true
  · rw [if_pos hw]
    refine q hw W0.heap.size m0 h m bl a w S.ws S.below.size (needH_mem.1 hrh) (fun t ht y hy => S.env t y (agree_looks hre t (operand_looks ht) y hy)) next Q ?_
    intro v w' m' hm hb hws hr
    refine k _ w' m' bl ⟨?_, ?_, Below.base S.below hb, hws, ?_, S.stk.mono hm, fun d' hd' => S.free d' (hf d' hd').1⟩
    · simp [Act.put, hd, S.defers]
    · simp [Act.put, hd, S.size]
    · rw [hd]; exact (S.env.mono hm).put (.opt (fun _ => hr) fun h => by rw [hw] at h; cases h) (by rw [S.size]; exact hN)
  · rw [if_neg hw]
    refine k _ w m bl ⟨?_, ?_, S.below, S.ws, ?_, S.stk, fun d' hd' => S.free d' (hf d' hd').1⟩
    · simp [Act.put, hd, S.defers]
    · simp [Act.put, hd, S.size]
    · rw [hd]; exact S.env.put (.opt (fun h => absurd h hw) fun _ => rfl) (by rw [S.size]; exact hN)

/-- A ghost's step: the state is told otherwise. -/
def Tells (L L' : LS) : Prop := ∀ N W0 m0 sa a w m bl, Sim N W0 m0 L sa a w m bl → ∃ m' bl', Sim N W0 m0 L' sa a w m' bl'
theorem Tells.refl (L : LS) : Tells L L := fun _ _ _ _ _ _ _ _ s => ⟨_, _, s⟩
theorem Tells.trans {a b c : LS} (h : Tells a b) (k : Tells b c) : Tells a c := fun _ _ _ _ _ _ _ _ s => let ⟨_, _, s'⟩ := h _ _ _ _ _ _ _ _ s; k _ _ _ _ _ _ _ _ s'
theorem GoT.tells {P ops N rest K L L'} (t : Tells L L') (k : GoT P ops N rest K L') : GoT P ops N rest K L :=
  fun _ _ _ _ _ _ _ s Q hq => let ⟨_, _, s'⟩ := t _ _ _ _ _ _ _ _ s; k _ _ _ _ _ _ _ s' Q hq
theorem AEx.tells {P o L L' K} (t : Tells L L') (k : AEx P o L' K) : AEx P o L K :=
  fun _ _ _ _ _ _ _ _ s hd next Q hn => let ⟨_, _, s'⟩ := t _ _ _ _ _ _ _ _ s; k _ _ _ _ _ _ _ _ s' hd next Q hn
theorem AEx.mono {P o L K K'} (h : AEx P o L K) (hk : ∀ L', K L' → K' L') : AEx P o L K' :=
  fun _ _ _ _ _ _ _ _ s hd next Q hn => h _ _ _ _ _ _ _ _ s hd next Q fun L' a' w' m' bl' q => hn L' a' w' m' bl' (hk L' q)
end Go.Rx
