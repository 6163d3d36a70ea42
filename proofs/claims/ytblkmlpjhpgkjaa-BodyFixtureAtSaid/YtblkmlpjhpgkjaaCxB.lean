/-
  What an abstract state stands for; what it means that an operation, a region, a piece of code, a function keeps to it. No conditions.
-/
import Derived.Test.YtblkmlpjhpgkjaaCxA
set_option linter.all false
namespace Go.Cx
open Go.RowKit

inductive ABlk where
  | cells (l : List AV)
  | iter (s : ByteArray) (pos : Nat)
  deriving Inhabited

def find {α : Type} (t : Nat) : List (Nat × α) → Option α
  | [] => none
  | (k, x) :: r => if k = t then some x else find t r

abbrev Env := List (Nat × AV)
abbrev Hp := List (Nat × ABlk)

/-- The slots, the own blocks, the names that nothing bears. -/
structure LS where
  e : Env
  h : Hp
  f : List Nat

def LS.put (L : LS) (d : Option Nat) (x : AV) : LS :=
  match d with
  | some d => { L with e := (d, x) :: L.e }
  | none => L

structure WSim (B : Nat) (m0 : Mem) (h : Hp) (m : Mem) (bl : Names) (hh : Spare) (w : World) : Prop where
  imm : Imm m w
  le : Mem.le m0 m
  grow : ∀ b o v, m b o = some v → m0 b o = some v ∨ B ≤ b
  blk : ∀ id l, find id h = some (.cells l) → ∃ b arr T, bl id = some b ∧ w.heap[b]? = some (.cells arr T (0, 0)) ∧ Reps m bl hh l arr.toList ∧ (∀ c ∈ arr.toList, oneCell c = true)
  it : ∀ id s p, find id h = some (.iter s p) → ∃ b, bl id = some b ∧ w.heap[b]? = some (.stringIter s p)
  own : ∀ id b, bl id = some b → B ≤ b ∧ b < w.heap.size ∧ (∀ o, m b o = none)
  inj : ∀ id id' b, bl id = some b → bl id' = some b → id = id'
  spare : ∀ k b f t, hh k = some (b, f, t) → B ≤ b ∧ (∃ arr T, w.heap[b]? = some (.cells arr T (0, 0)) ∧ t ≤ arr.size) ∧ (∀ o, f ≤ o → m b o = none) ∧ (∀ id, bl id ≠ some b) ∧
    (∀ k' s, hh k' = some s → s.1 = b → k' = k)

def EnvRep (m : Mem) (bl : Names) (hh : Spare) (e : Env) (a : Act) : Prop := ∀ t x, find t e = some x → Rep m bl hh x (a.tmps.getD t undef)

/-- The names are free: nothing bears them. -/
def Free (fr : List Nat) (bl : Names) (hh : Spare) : Prop := ∀ d ∈ fr, bl d = none ∧ ∀ j, hh (d, j) = none

structure Sim (N : Nat) (W0 : World) (m0 : Mem) (L : LS) (a : Act) (w : World) (m : Mem) (bl : Names) (hh : Spare) : Prop where
  defers : a.defers = []
  size : a.tmps.size = N
  below : Below W0.heap.size W0 w
  ws : WSim W0.heap.size m0 L.h m bl hh w
  env : EnvRep m bl hh L.e a
  free : Free L.f bl hh

/-- A pure call: on what 'args' stands for, f returns what 'r' stands for; nothing that was there turns. -/
def FnR (P : Program) (f : FuncId) (args : List AV) (r : AV) : Prop :=
  ∀ (w : World) (m : Mem) (vs : List Value), Imm m w → Reps m noNames noSpare args vs →
    Calls P f vs.toArray w fun e w' => ∃ v m' hh', e = .returned v ∧ Below w.heap.size w w' ∧ WSim w.heap.size m [] m' noNames hh' w' ∧
      (∀ k s, hh' k = some s → k.1 = 0) ∧ Rep m' noNames hh' r v

/-- What the types of a program say, in closed form. -/
def tSz (P : Program) (t : TypeId) : Option Nat := (P.info? t).map (·.size)
def isAggD : TypeDesc → Bool
  | .struct _ => true
  | .array _ _ => true
  | _ => false
def tAg (P : Program) (t : TypeId) : Option Bool := (P.underlying t).map isAggD

theorem run_isAgg_of {P : Program} {t : TypeId} {b : Bool} (h : tAg P t = some b) (w : World) : (isAgg t).run P w = .ok b w := by
  unfold tAg at h
  cases hu : P.underlying t with
  | none => simp [hu] at h
  | some d =>
    simp [hu] at h
    subst h
    unfold isAgg underlying
    cases d <;> simp [hu, isAggD]

theorem run_sizeOf_of {P : Program} {t : TypeId} {n : Nat} (h : tSz P t = some n) (w : World) : (sizeOf t).run P w = .ok n w := by
  unfold tSz at h
  cases hu : P.info? t with
  | none => simp [hu] at h
  | some d => simp [hu] at h; subst h; simp [sizeOf, typeInfo, hu]

theorem addr_add (b o n : Nat) : (⟨b, o, none⟩ : Addr).add n = ⟨b, o + n, none⟩ := by unfold Addr.add; split <;> simp_all

theorem run_loadVar_agg {P : Program} {ty : TypeId} {cs : List Value} {w : World} {b o : Nat} (ha : tAg P ty = some true) (hs : tSz P ty = some cs.length)
    (h : ∀ j v, cs[j]? = some v → w.cell? ⟨b, o + j, none⟩ = some v) : (loadVar ty ⟨b, o, none⟩).run P w = .ok (.agg cs.toArray) w := by
  have hl := run_loadCells_list (P := P) w ⟨b, o, none⟩ cs (fun j v hv => by rw [addr_add]; exact h j v hv)
  simp [loadVar, run_isAgg_of ha, run_sizeOf_of hs, hl]

theorem run_loadVar_one {P : Program} {ty : TypeId} {v : Value} {w : World} {a : Addr} (ha : tAg P ty = some false) (h : w.cell? a = some v) : (loadVar ty a).run P w = .ok v w := by
  simp [loadVar, run_isAgg_of ha, h]

/-! operands -/

inductive OpdOk (P : Program) (e : Env) : TypeId → Operand → AV → Prop
  | tmp {ty s x} : find s e = some x → OpdOk P e ty (.tmp s) x
  | opt {ty x c y} : OpdOk P e ty x (.opt c y) → c = true → OpdOk P e ty x y
  | con {ty x} : OpdOk P e ty (.const x) (.v x)
  | fn {ty f} : OpdOk P e ty (.func f) (.clo f [])
  | drop {ty x k sz l} : OpdOk P e ty x (.sl k sz l) → OpdOk P e ty x (.sl none sz l)
  | nil {ty tk sz} : OpdOk P e ty (.const (.slice none 0 0)) (.sl tk sz [])

def Reads (o : Oper) (e : Env) (m : Mem) (bl : Names) (hh : Spare) (a : Act) : Prop :=
  ∀ t, Operand.tmp t ∈ o.op.operands → ∀ y, find t e = some y → Rep m bl hh y (a.tmps.getD t undef)

theorem OpdOk.rep {P e ty x y} (h : OpdOk P e ty x y) {o : Oper} {m bl hh a} (hr : Reads o e m bl hh a) (hx : x ∈ o.op.operands) : Rep m bl hh y (a.eval x) := by
  induction h with
  | tmp hf => exact hr _ hx _ hf
  | opt _ hc ih => cases ih hx with | opt h => exact h hc
  | con => exact .v
  | fn => exact .clo .nil
  | drop _ ih =>
    have h1 := ih hx
    generalize a.eval _ = v at h1 ⊢
    cases h1 with
    | slnil => exact .slnil
    | sl h1 h2 h3 h4 h5 h6 h7 => exact .sl h1 h2 h3 h4 h5 h6 (by simp)
  | nil => exact .slnil

/-- A quiet operation: it yields 'x', reads its operands and the own blocks 'need', and makes at most a token of its own name ('cr'). -/
def QEx (P : Program) (o : Oper) (e : Env) (need : List (Nat × List AV)) (cr : Bool) (x : AV) : Prop :=
  ∀ (B : Nat) (m0 : Mem) (h : Hp) (m : Mem) (bl : Names) (hh : Spare) (a : Act) (w : World), WSim B m0 h m bl hh w → B ≤ w.heap.size → (∀ p ∈ need, find p.1 h = some (.cells p.2)) →
    Reads o e m bl hh a → (cr = true → ∀ d, o.dst = some d → ∀ j, hh (d, j) = none) →
    ∀ (next : Act → World → Prop) (Q : Exit → Act → World → Prop),
      (∀ v w' m' hh', Mem.le m m' → Below w.heap.size w w' → WSim B m0 h m' bl hh' w' → (∀ k s, hh k = some s → hh' k = some s) →
        (∀ k, (cr = true → ∀ d, o.dst = some d → k.1 ≠ d) → hh' k = hh k) → Rep m' bl hh' x v → next (a.put o.dst v) w') →
      o.wp P a w next Q

/-- Any operation, in the text's order. -/
def AEx (P : Program) (o : Oper) (L L' : LS) : Prop :=
  ∀ N W0 m0 m bl hh a w, Sim N W0 m0 L a w m bl hh → (∀ d, o.dst = some d → d < N) → ∀ (next : Act → World → Prop) (Q : Exit → Act → World → Prop),
    (∀ a' w' m' bl' hh', Sim N W0 m0 L' a' w' m' bl' hh' → next a' w') → o.wp P a w next Q

theorem getD_set (l : Array Value) (d t : Nat) (v : Value) (hd : d < l.size) : (l.setIfInBounds d v).getD t undef = if d = t then v else l.getD t undef := by
  rw [Array.getD_eq_getD_getElem?, Array.getD_eq_getD_getElem?, Array.getElem?_setIfInBounds]
  by_cases h : d = t
  · subst h; simp [hd]
  · simp [h]

theorem EnvRep.put {m bl hh e a x v d} (h : EnvRep m bl hh e a) (hx : Rep m bl hh x v) (hd : d < a.tmps.size) : EnvRep m bl hh ((d, x) :: e) (a.put (some d) v) := by
  intro t y hf
  simp only [find] at hf
  simp only [Act.put]
  rw [getD_set _ _ _ _ hd]
  split at hf
  · rename_i hk; subst hk; simp at hf; subst hf; simpa using hx
  · rename_i hk; rw [if_neg hk]; exact h t y hf

theorem Below.base {W0 w w' : World} (h : Below W0.heap.size W0 w) (h2 : Below w.heap.size w w') : Below W0.heap.size W0 w' := h.trans (h2.mono h.size)

/-- The list without the name d, where it bears it once. -/
def takeOut (d : Nat) : List Nat → Option (List Nat)
  | [] => none
  | x :: r => if x = d then (if r.contains d then none else some r) else match takeOut d r with | some r' => some (x :: r') | none => none

theorem takeOut_spec {d : Nat} : ∀ {l l' : List Nat}, takeOut d l = some l' → d ∈ l ∧ (∀ y ∈ l', y ∈ l ∧ y ≠ d)
  | [], _, h => by simp [takeOut] at h
  | x :: r, l', h => by
    simp only [takeOut] at h
    split at h
    · rename_i hx; subst hx
      split at h
      · simp at h
      · rename_i hc
        simp at h; subst h
        refine ⟨by simp, fun y hy => ⟨by simp [hy], ?_⟩⟩
        intro he; subst he; simp at hc; exact hc hy
    · rename_i hx
      split at h
      · rename_i r' hr
        simp at h; subst h
        obtain ⟨h1, h2⟩ := takeOut_spec hr
        refine ⟨by simp [h1], fun y hy => ?_⟩
        rcases List.mem_cons.1 hy with rfl | hy
        · exact ⟨by simp, hx⟩
        · exact ⟨by simp [(h2 y hy).1], (h2 y hy).2⟩
      · simp at h

theorem QEx.act {P o need cr x} {e : Env} {h : Hp} {f f' : List Nat} (q : QEx P o e need cr x) (hn : ∀ p ∈ need, find p.1 h = some (.cells p.2))
    (hc : (cr = false ∧ f' = f) ∨ (∃ d, o.dst = some d ∧ takeOut d f = some f')) : AEx P o ⟨e, h, f⟩ (LS.put ⟨e, h, f'⟩ o.dst x) := by
  intro N W0 m0 m bl hh a w s hd next Q hk
  refine q W0.heap.size m0 h m bl hh a w s.ws s.below.size hn (fun t _ y hf => s.env t y hf) ?_ next Q ?_
  · intro hcr d hdst j
    rcases hc with ⟨hc, _⟩ | ⟨d', hd', hfr⟩
    · simp [hc] at hcr
    · rw [hdst] at hd'; cases hd'; exact (s.free d (takeOut_spec hfr).1).2 j
  · intro v w' m' hh' hm hb hws hx ho hr
    refine hk _ _ m' bl hh' ⟨?_, ?_, Below.base s.below hb, ?_, ?_, ?_⟩
    · cases hdst : o.dst <;> simp [Act.put, s.defers]
    · cases hdst : o.dst <;> simp [Act.put, s.size]
    · cases hdst : o.dst <;> simpa [LS.put] using hws
    · have he : EnvRep m' bl hh' e a := fun t y hf => ((s.env t y hf).mono hm).widen (fun _ _ e => e) hx
      cases hdst : o.dst with
      | none => simpa [LS.put, Act.put] using he
      | some d => exact he.put hr (by rw [s.size]; exact hd d hdst)
    · intro d hdf
      have hdf' : d ∈ f' := by cases hdst : o.dst <;> simpa [LS.put, hdst] using hdf
      rcases hc with ⟨hc, hfr⟩ | ⟨d', hd', hfr⟩
      · subst hfr
        refine ⟨(s.free d hdf').1, fun j => ?_⟩
        rw [ho (d, j) (by simp [hc])]
        exact (s.free d hdf').2 j
      · have hm2 := (takeOut_spec hfr).2 d hdf'
        refine ⟨(s.free d hm2.1).1, fun j => ?_⟩
        rw [ho (d, j) (by intro _ d2 h2; rw [hd'] at h2; cases h2; exact hm2.2)]
        exact (s.free d hm2.1).2 j

/-- A region's operations in the text's order. -/
def GoT (P : Program) (ops : Array Oper) (N : Nat) (rest : List Oper) (K : LS → Prop) (L : LS) : Prop :=
  ∀ W0 m0 m bl hh a w, Sim N W0 m0 L a w m bl hh → ∀ Q : Exit → Act → World → Prop,
    (∀ L' a' w' m' bl' hh', K L' → Sim N W0 m0 L' a' w' m' bl' hh' → Q .normal a' w') → wpList P ops Q rest a w

theorem GoT.nil {P ops N K L} (h : K L) : GoT P ops N [] K L := fun _ _ _ _ _ _ _ s _ hq => hq _ _ _ _ _ _ h s

theorem GoT.act {P ops N o rest K L L'} (hg : o.guard = none) (h : AEx P o L L') (hd : ∀ d, o.dst = some d → d < N) (k : GoT P ops N rest K L') : GoT P ops N (o :: rest) K L := by
  intro W0 m0 m bl hh a w s Q hq
  simp only [wpList, Region.wanted, hg, if_true]
  exact .inl (h N W0 m0 m bl hh a w s hd _ _ fun a' w' m' bl' hh' s' => k _ _ _ _ _ _ _ s' Q hq)

theorem yielded_slot {ops : Array Oper} {tmps : Array Value} {j s : Nat} {b : Bool} (hj : (ops[j]?).bind (·.dst) = some s) (hv : tmps.getD s undef = .bool b) : yielded ops tmps j = some b := by
  unfold yielded
  rw [hj]
  have : tmps[s]? = some (.bool b) := by
    rw [Array.getD_eq_getD_getElem?] at hv
    cases h : tmps[s]? with
    | none => rw [h] at hv; simp [undef] at hv
    | some x => rw [h] at hv; simp at hv; rw [hv]
  simp [this]

theorem Rep.eq_v {m bl hh x y} (h : Rep m bl hh (.v x) y) : y = x := by
  generalize hz : AV.v x = z at h
  cases h <;> cases hz
  rfl

theorem Rep.eq_opt {m bl hh c x y} (h : Rep m bl hh (.opt c x) y) : (c = true → Rep m bl hh x y) ∧ (c = false → y = Go.undef) := by
  generalize hz : AV.opt c x = z at h
  cases h <;> cases hz
  exact ⟨‹_›, ‹_›⟩

theorem yielded_undef {ops : Array Oper} {tmps : Array Value} {j s : Nat} (hj : (ops[j]?).bind (·.dst) = some s) (hv : tmps.getD s undef = undef) : yielded ops tmps j = none := by
  unfold yielded
  rw [hj]
  rw [Array.getD_eq_getD_getElem?] at hv
  cases h : tmps[s]? with
  | none => simp [h]
  | some x => rw [h] at hv; simp [undef] at hv; simp [h, hv]

/-- Under a guard that yields the bool t. -/
theorem GoT.guarded {P ops N o rest K L need x j want s t} (hg : o.guard = some (j, want)) (hj : (ops[j]?).bind (·.dst) = some s) (hs : find s L.e = some (.v (.bool t)))
    (h : (t == want) = true → QEx P o L.e need false x) (hn : ∀ p ∈ need, find p.1 L.h = some (.cells p.2)) {d : Nat} (hdst : o.dst = some d) (hd : d < N)
    (k : GoT P ops N rest K { L with e := (d, .opt (t == want) x) :: L.e }) : GoT P ops N (o :: rest) K L := by
  intro W0 m0 m bl hh a w S Q hq
  have hv : a.tmps.getD s undef = .bool t := (S.env s _ hs).eq_v
  simp only [wpList, Region.wanted, hg, yielded_slot hj hv]
  by_cases ht : (t == want) = true
  · have : (some t == some want) = true := by simpa using ht
    rw [if_pos this]
    refine .inl ((h ht) W0.heap.size m0 L.h m bl hh a w S.ws S.below.size hn (fun t _ y hf => S.env t y hf) (by simp) _ _ ?_)
    intro v w' m' hh' hm hb hws hx ho hr
    refine k W0 m0 m' bl hh' _ w' ⟨?_, ?_, Below.base S.below hb, hws, ?_, ?_⟩ Q hq
    · simp [Act.put, hdst, S.defers]
    · simp [Act.put, hdst, S.size]
    · have he : EnvRep m' bl hh' L.e a := fun t y hf => ((S.env t y hf).mono hm).widen (fun _ _ e => e) hx
      rw [hdst]
      exact he.put (.opt (fun _ => hr) fun h => by simp [ht] at h) (by rw [S.size]; exact hd)
    · intro d' hdf
      exact ⟨(S.free d' hdf).1, fun j' => by rw [ho (d', j') (by simp)]; exact (S.free d' hdf).2 j'⟩
  · have : ¬ (some t == some want) = true := by simpa using ht
    rw [if_neg this, hdst]
    refine k W0 m0 m bl hh _ w ⟨?_, ?_, S.below, S.ws, ?_, S.free⟩ Q hq
    · simp [Act.put, S.defers]
    · simp [Act.put, S.size]
    · exact S.env.put (.opt (fun c => absurd c ht) fun _ => rfl) (by rw [S.size]; exact hd)

/-- Under a guard that itself is guarded. -/
theorem GoT.guarded2 {P ops N o rest K L need x j want s c t} (hg : o.guard = some (j, want)) (hj : (ops[j]?).bind (·.dst) = some s) (hs : find s L.e = some (.opt c (.v (.bool t))))
    (h : (c && (t == want)) = true → QEx P o L.e need false x) (hn : ∀ p ∈ need, find p.1 L.h = some (.cells p.2)) {d : Nat} (hdst : o.dst = some d) (hd : d < N)
    (k : GoT P ops N rest K { L with e := (d, .opt (c && (t == want)) x) :: L.e }) : GoT P ops N (o :: rest) K L := by
  intro W0 m0 m bl hh a w S Q hq
  have skip : (c && (t == want)) = false → wpList P ops Q rest (a.put (some d) undef) w := by
    intro hcf
    refine k W0 m0 m bl hh _ w ⟨?_, ?_, S.below, S.ws, ?_, S.free⟩ Q hq
    · simp [Act.put, S.defers]
    · simp [Act.put, S.size]
    · exact S.env.put (.opt (fun c => absurd c (by simp [hcf])) fun _ => rfl) (by rw [S.size]; exact hd)
  obtain ⟨h1, h2⟩ := (S.env s _ hs).eq_opt
  cases hct : c with
  | false =>
    simp only [wpList, Region.wanted, hg, yielded_undef hj (h2 hct)]
    rw [if_neg (by simp), hdst]
    exact skip (by simp [hct])
  | true =>
    have hv : a.tmps.getD s undef = .bool t := (h1 hct).eq_v
    simp only [wpList, Region.wanted, hg, yielded_slot hj hv]
    by_cases ht : (t == want) = true
    · have hcc : (c && (t == want)) = true := by simp [hct, ht]
      have : (some t == some want) = true := by simpa using ht
      rw [if_pos this]
      refine .inl ((h hcc) W0.heap.size m0 L.h m bl hh a w S.ws S.below.size hn (fun t _ y hf => S.env t y hf) (by simp) _ _ ?_)
      intro v w' m' hh' hm hb hws hx ho hr
      refine k W0 m0 m' bl hh' _ w' ⟨?_, ?_, Below.base S.below hb, hws, ?_, ?_⟩ Q hq
      · simp [Act.put, hdst, S.defers]
      · simp [Act.put, hdst, S.size]
      · have he : EnvRep m' bl hh' L.e a := fun t y hf => ((S.env t y hf).mono hm).widen (fun _ _ e => e) hx
        rw [hdst]
        exact he.put (.opt (fun _ => hr) fun h => by simp [hcc] at h) (by rw [S.size]; exact hd)
      · intro d' hdf
        exact ⟨(S.free d' hdf).1, fun j' => by rw [ho (d', j') (by simp)]; exact (S.free d' hdf).2 j'⟩
    · have : ¬ (some t == some want) = true := by simpa using ht
      rw [if_neg this, hdst]
      exact skip (by simp at ht; simp [ht])

end Go.Cx
