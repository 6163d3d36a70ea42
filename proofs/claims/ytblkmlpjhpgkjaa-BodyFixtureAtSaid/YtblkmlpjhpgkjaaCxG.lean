/-
  Slices cut and appended to. Conditions: those named in each rule.
-/
import Derived.Test.YtblkmlpjhpgkjaaCxF
set_option linter.all false
namespace Go.Cx
open Go.RowKit

section
variable {P : Program} {o : Oper} {e : Env}

/-- The bounds of a slice expression: what they are, in the abstract. -/
inductive BoundOk (P : Program) (e : Env) : Option Operand → Nat → Nat → Prop
  | none {n} : BoundOk P e none n n
  | some {y k i n} : OpdOk P e 0 y (.v (.int k i)) → 0 ≤ i → BoundOk P e (some y) n i.toNat

/-- s[lo:hi] of a slice that came as an immutable list; 'hi' is at most its length. -/
theorem QEx.slice {t y lo hi E sz by_ tk l a b} (ho : o.op = .slice t y lo hi none) (ht : ElemT P t E sz by_) (hy : OpdOk P e t y (.sl tk sz l))
    (hlo : BoundOk P e lo 0 a) (hhi : BoundOk P e hi l.length b) (hab : a ≤ b) (hb : b ≤ l.length) : QEx P o e [] false (.sl none sz ((l.drop a).take (b - a))) :=
  .pure fun _ _ _ m bl hh ac w hws _ hr => by
    have h1 := hy.rep hr (by simp [ho, Op.operands])
    generalize hv : ac.eval y = v at h1
    have e1 : ∀ len cap : Nat, b ≤ cap → (hi = none → b = len) → (Instr.sliceBounds true len cap (lo.map ac.eval) (hi.map ac.eval) none).run P w = .ok (a, b, cap) w := by
      intro len cap hc hn
      cases hlo with
      | none =>
        cases hhi with
        | none => simp [Instr.sliceBounds, hn rfl]
        | some h2 h3 =>
          have := (h2.rep hr (by simp [ho, Op.operands])).eq_v
          rename_i k i
          have hi' : i ≤ (cap : Int) := by omega
          simp [Instr.sliceBounds, this, Instr.sliceBound, asIntOf, h3, hi']
      | some g2 g3 =>
        have hg := (g2.rep hr (by simp [ho, Op.operands])).eq_v
        rename_i gk gi
        cases hhi with
        | none =>
          have hi' : gi ≤ (len : Int) := by have := hn rfl; omega
          simp [Instr.sliceBounds, hg, Instr.sliceBound, asIntOf, g3, hi', hn rfl]
        | some h2 h3 =>
          have := (h2.rep hr (by simp [ho, Op.operands])).eq_v
          rename_i k i
          have hi' : i ≤ (cap : Int) := by omega
          have hg' : gi ≤ i := by omega
          have hm : max i 0 = i := by omega
          simp [Instr.sliceBounds, this, hg, Instr.sliceBound, asIntOf, h3, hi', g3, hg', hm]
    have e2 : hi = none → b = l.length := by intro h; subst h; cases hhi; rfl
    cases h1 with
    | slnil =>
      simp at hb; subst hb
      have ha : a = 0 := by omega
      subst ha
      refine ⟨.slice none 0 0, ?_, by simpa using Rep.slnil⟩
      have := e1 0 0 (Nat.le_refl _) (fun _ => rfl)
      simp [execOp, ho, hv, Instr.sliceAt, run_underlying_of ht.under, Instr.slice, this, run_sizeOf_of ht.sz]
    | sl g1 g2 g3 g4 g5 g6 g7 =>
      rename_i ad cap cs
      have hrun := e1 l.length cap (by omega) e2
      have hl' : ((l.drop a).take (b - a)).length = b - a := by simp; omega
      refine ⟨.slice (some (if cap = a then ad else ad.add (a * sz))) (b - a) (cap - a), ?_, ?_⟩
      · simp only [execOp, ho, hv, Instr.sliceAt, Sem.run_bind, run_underlying_of ht.under, Result.andThen_ok, Instr.slice, Option.map_none, hrun, run_sizeOf_of ht.sz, Sem.run_pure]
        by_cases hca : cap = a
        · simp [hca]
        · simp [hca]
      · have hcl := g2.length
        rw [flat_len g1] at hcl
        have key : Rep m bl hh (.sl none sz ((l.drop a).take (b - a))) (.slice (some (if cap = a then ad else ad.add (a * sz))) ((l.drop a).take (b - a)).length (cap - a)) := by
          refine .sl (cs := (cs.drop (a * sz)).take ((b - a) * sz)) (fun x hx => g1 x (List.mem_of_mem_drop (List.mem_of_mem_take hx))) ?_ (fun c hc => g3 c (List.mem_of_mem_drop (List.mem_of_mem_take hc))) ?_ ?_ (by rw [hl']; omega) (by simp)
          · have := (g2.drop (a * sz)).take ((b - a) * sz)
            rw [flat_drop a g1, flat_take (b - a) (fun x hx => g1 x (List.mem_of_mem_drop hx))] at this
            exact this
          · intro hlen
            have hcs : 0 < cs.length := by simp at hlen; omega
            have hsp := g4 hcs
            split
            · exact hsp
            · obtain ⟨ab, ao, as⟩ := ad
              simp only at hsp; subst hsp
              rw [addr_add]
          · intro j v hj
            have hne : ¬ cap = a := by
              intro hc
              have hba : b - a = 0 := by omega
              rw [hba] at hj
              simp at hj
            rw [if_neg hne]
            have h0 : 0 < cs.length := by
              rcases Nat.eq_zero_or_pos cs.length with h | h
              · have : cs = [] := List.eq_nil_of_length_eq_zero h
                subst this; simp at hj
              · exact h
            have hsp := g4 h0
            obtain ⟨ab, ao, as⟩ := ad
            simp only at hsp; subst hsp
            rw [addr_add]
            have := g5 _ v (take_drop_get hj)
            simp only
            rw [Nat.add_assoc]; exact this
        rwa [hl'] at key

/-- s[:n:n] at the slice's own length: nobody's spare places. -/
theorem QEx.slice3 {t y hi mx E sz by_ tk l k k' d} (ho : o.op = .slice t y none (some hi) (some mx)) (ht : ElemT P t E sz by_) (hy : OpdOk P e t y (.sl tk sz l))
    (hhi : OpdOk P e 0 hi (.v (.int k l.length))) (hmx : OpdOk P e 0 mx (.v (.int k' l.length))) : QEx P o e [] false (.sl (some (d, 0)) sz l) :=
  .pure fun _ _ _ m bl hh ac w hws _ hr => by
    have h1 := hy.rep hr (by simp [ho, Op.operands])
    have h2 := (hhi.rep hr (by simp [ho, Op.operands])).eq_v
    have h3 := (hmx.rep hr (by simp [ho, Op.operands])).eq_v
    generalize hv : ac.eval y = v at h1
    cases h1 with
    | slnil =>
      refine ⟨.slice none 0 0, ?_, .slnil⟩
      simp [execOp, ho, hv, Instr.sliceAt, run_underlying_of ht.under, Instr.slice, Instr.sliceBounds, h2, h3, Instr.sliceBound, asIntOf, run_sizeOf_of ht.sz]
    | sl g1 g2 g3 g4 g5 g6 g7 =>
      rename_i ad cap cs
      refine ⟨.slice (some ad) l.length l.length, ?_, .sl g1 g2 g3 g4 g5 (Nat.le_refl _) (fun _ _ => .inl rfl)⟩
      simp [execOp, ho, hv, Instr.sliceAt, run_underlying_of ht.under, Instr.slice, Instr.sliceBounds, h2, h3, Instr.sliceBound, asIntOf, run_sizeOf_of ht.sz, Addr.add]
      intro h; omega


end

def LS.purge (ds : List Nat) (L : LS) : LS :=
  ⟨L.e.map fun p => (p.1, p.2.purge ds), (L.h.filter fun p => !ds.contains p.1).map fun p => (p.1, p.2.purge ds), ds ++ L.f⟩

theorem find_map {α β : Type} (g : α → β) (t : Nat) : ∀ (l : List (Nat × α)), find t (l.map fun p => (p.1, g p.2)) = (find t l).map g
  | [] => rfl
  | (k, x) :: r => by
    simp only [List.map_cons, find]
    split
    · rfl
    · exact find_map g t r
theorem find_filter {α : Type} (q : Nat → Bool) (t : Nat) : ∀ (l : List (Nat × α)), find t (l.filter fun p => q p.1) = if q t then find t l else none
  | [] => by simp [find]
  | (k, x) :: r => by
    rw [List.filter_cons]
    by_cases hk : k = t
    · subst hk
      by_cases hq : q k = true
      · simp [hq, find]
      · simp only [hq]
        have := find_filter q k r
        simp only [hq] at this
        simpa using this
    · have ih := find_filter q t r
      split
      · simp only [find, if_neg hk]; exact ih
      · simp only [find, if_neg hk]; exact ih

theorem LS.purge_back (ds : List Nat) (L : LS) : LS.back ds (L.purge ds) L := by
  refine ⟨fun t x h => ?_, fun id b h => ?_, fun d hd => ?_⟩
  · simp only [LS.purge] at h
    rw [find_map (fun x => AV.purge ds x)] at h
    obtain ⟨y, h1, h2⟩ := Option.map_eq_some_iff.1 h
    exact ⟨y, h1, by rw [h2]; exact .same⟩
  · simp only [LS.purge] at h
    rw [find_map (fun x => ABlk.purge ds x), find_filter (fun k => !ds.contains k)] at h
    split at h
    · rename_i hq
      obtain ⟨y, h1, h2⟩ := Option.map_eq_some_iff.1 h
      exact ⟨by simpa using hq, y, h1, h2⟩
    · simp at h
  · simp only [LS.purge, List.mem_append] at hd
    exact hd.symm

/-- What an appended slice reads as. -/
theorem sl_cells {m bl hh tk sz l v} (h : Rep m bl hh (.sl tk sz l) v) : ∃ ad n cap cs, v = .slice ad n cap ∧ n = l.length ∧ n ≤ cap ∧ (∀ x ∈ l, x.cells.length = sz) ∧ Reps m noNames noSpare (l.flatMap AV.cells) cs ∧
    (∀ c ∈ cs, oneCell c = true) ∧ (ad = none → l = [] ∧ cap = 0) ∧
    (∀ a, ad = some a → (0 < cs.length → a.spot = none) ∧ (∀ j v, cs[j]? = some v → m a.block (a.off + j) = some v) ∧
      (∀ k, tk = some k → cap = l.length ∨ (a.spot = none ∧ hh k = some (a.block, a.off + l.length * sz, a.off + cap * sz)))) := by
  cases h with
  | slnil => exact ⟨none, 0, 0, [], rfl, rfl, Nat.le_refl _, by simp, .nil, by simp, by simp, by simp⟩
  | sl g1 g2 g3 g4 g5 g6 g7 => exact ⟨_, _, _, _, rfl, rfl, g6, g1, g2, g3, by simp, fun a ha => by cases ha; exact ⟨g4, g5, g7⟩⟩

/-- The tokens' own root of a slice. -/
def rootOf : Option Tok → List Nat
  | some k => [k.1]
  | none => []

/-- A token more. -/
def updTok (hh : Spare) (d : Nat) (X : Option (Nat × Nat × Nat)) : Spare := fun t => if t = (d, 0) then X else hh t

theorem WSim.newTok {B m0 h m bl hh w d X} (s : WSim B m0 h m bl hh w) (hfree : hh (d, 0) = none)
    (hX : ∀ b f t, X = some (b, f, t) → B ≤ b ∧ (∃ arr T, w.heap[b]? = some (.cells arr T (0, 0)) ∧ t ≤ arr.size) ∧ (∀ o, f ≤ o → m b o = none) ∧ (∀ id, bl id ≠ some b) ∧ (∀ k' s, hh k' = some s → s.1 ≠ b)) :
    WSim B m0 h m bl (updTok hh d X) w ∧ (∀ k s, hh k = some s → updTok hh d X k = some s) := by
  have hext : ∀ k s, hh k = some s → updTok hh d X k = some s := by
    intro k s e
    unfold updTok
    rw [if_neg]; exact e
    intro hk; subst hk; rw [hfree] at e; cases e
  refine ⟨⟨s.imm, s.le, s.grow, ?_, s.it, s.own, s.inj, ?_⟩, hext⟩
  · intro id l hf
    obtain ⟨b, arr, T, g1, g2, g3, g4⟩ := s.blk id l hf
    exact ⟨b, arr, T, g1, g2, g3.widen (fun _ _ e => e) hext, g4⟩
  · intro k b f t e
    unfold updTok at e
    split at e
    · rename_i hk; subst hk
      obtain ⟨g1, g2, g3, g4, g5⟩ := hX b f t e
      refine ⟨g1, g2, g3, g4, fun k' s' e' hs' => ?_⟩
      unfold updTok at e'
      split at e'
      · assumption
      · exact absurd hs' (g5 k' s' e')
    · rename_i hk
      obtain ⟨g1, g2, g3, g4, g5⟩ := s.spare k b f t e
      refine ⟨g1, g2, g3, g4, fun k' s' e' hs' => ?_⟩
      unfold updTok at e'
      split at e'
      · obtain ⟨b', f', t'⟩ := s'
        simp only at hs'; subst hs'
        exact absurd rfl ((hX _ _ _ e').2.2.2.2 k (b', f, t) e)
      · exact g5 k' s' e' hs'

theorem run_append {P : Program} {o : Oper} {a : Act} {w : World} {t y z} (ho : o.op = .call { callee := .builtin .append, args := #[y, z], argTypes := #[t, t] }) {v : Value} {w' : World}
    (h : (Builtin.append_ #[t, t] o.type #[a.eval y, a.eval z]).run P w = .ok v w') : (execOp a.eval o).run P w = .ok (.value v) w' := by
  unfold execOp
  simp only [ho, resolve, invoke, builtin, Sem.run_bind, Sem.run_pure, Result.andThen_ok, List.map_toArray, List.map_cons, List.map_nil, h]

theorem cells_at {m : Mem} {w : World} (hi : Imm m w) {ad : Addr} {cs : List Value} (h1 : 0 < cs.length → ad.spot = none) (h2 : ∀ j v, cs[j]? = some v → m ad.block (ad.off + j) = some v) :
    ∀ j v, cs[j]? = some v → w.cell? (ad.add j) = some v := by
  intro j v e
  have hpos : 0 < cs.length := by
    rcases Nat.eq_zero_or_pos cs.length with h | h
    · have : cs = [] := List.eq_nil_of_length_eq_zero h
      subst this; simp at e
    · exact h
  have hs := h1 hpos
  obtain ⟨b, off, sp⟩ := ad
  simp only at hs; subst hs
  rw [addr_add]
  exact hi _ _ _ (h2 j v e)

theorem AEx.append {P : Program} {o : Oper} {L : LS} {t y z E sz by_ tk l tk2 l2 d f'} (ho : o.op = .call { callee := .builtin .append, args := #[y, z], argTypes := #[t, t] })
    (ht : ElemT P t E sz by_) (hy : OpdOk P L.e t y (.sl tk sz l)) (hz : OpdOk P L.e t z (.sl tk2 sz l2)) (hk : tk.isSome = true)
    (hlen : (l.length + l2.length) * by_ ≤ 140737488355328) (h63 : l.length + l2.length ≤ 9223372036854775807) (hd : o.dst = some d)
    (hf : takeOut d (rootOf tk ++ L.f) = some f') :
    AEx P o L ⟨(d, .sl (some (d, 0)) sz (l ++ l2)) :: (L.purge (rootOf tk)).e, (L.purge (rootOf tk)).h, f'⟩ := by
  intro N W0 m0 m bl hh a w s hdN next Q k
  have r1 := hy.rep (o := o) (fun t _ y hf => s.env t y hf) (by simp [ho, Op.operands, Call.operands])
  have r2 := hz.rep (o := o) (fun t _ y hf => s.env t y hf) (by simp [ho, Op.operands, Call.operands])
  obtain ⟨ad1, n1, cap1, cs1, hv1, hn1, hc1, el1, reps1, one1, emp1, at1⟩ := sl_cells r1
  obtain ⟨ad2, n2, cap2, cs2, hv2, hn2, hc2, el2, reps2, one2, emp2, at2⟩ := sl_cells r2
  subst hn1 hn2
  have len1 : cs1.length = l.length * sz := by rw [← reps1.length, flat_len el1]
  have len2 : cs2.length = l2.length * sz := by rw [← reps2.length, flat_len el2]
  have repsA : Reps m noNames noSpare ((l ++ l2).flatMap AV.cells) (cs1 ++ cs2) := by rw [List.flatMap_append]; exact reps1.append reps2
  have elA : ∀ x ∈ l ++ l2, x.cells.length = sz := by intro x hx; rcases List.mem_append.1 hx with h | h <;> first | exact el1 x h | exact el2 x h
  have oneA : ∀ c ∈ cs1 ++ cs2, oneCell c = true := by intro x hx; rcases List.mem_append.1 hx with h | h <;> first | exact one1 x h | exact one2 x h
  obtain ⟨i, zv, hi1, hi2, hi3, hi4, hi5, hi6⟩ := ht.info
  have s1 := s.back' (LS.purge_back (rootOf tk) L)
  have hsub : ∀ k' x, purgeS (rootOf tk) hh k' = some x → hh k' = some x ∧ ∀ k0, tk = some k0 → k' ≠ k0 := by
    intro k' x e
    unfold purgeS at e
    split at e
    · cases e
    · rename_i hq
      refine ⟨e, fun k0 h0 he => hq ?_⟩
      subst h0 he; simp [rootOf]
  have hbl : ∀ id b, purgeN (rootOf tk) bl id = some b → bl id = some b := by
    intro id b e
    unfold purgeN at e
    split at e
    · cases e
    · exact e
  have hfr := takeOut_spec hf
  have hdfree : purgeS (rootOf tk) hh (d, 0) = none := by
    have := (s1.free d (by simpa [LS.purge] using hfr.1)).2 0
    exact this
  -- how it goes on, in every case
  have fin : ∀ (v : Value) (w' : World) (m2 : Mem) (X : Option (Nat × Nat × Nat)), (execOp a.eval o).run P w = .ok (.value v) w' → Below W0.heap.size W0 w' → Mem.le m m2 →
      WSim W0.heap.size m0 (L.purge (rootOf tk)).h m2 (purgeN (rootOf tk) bl) (purgeS (rootOf tk) hh) w' →
      (∀ b f t, X = some (b, f, t) → W0.heap.size ≤ b ∧ (∃ arr T, w'.heap[b]? = some (.cells arr T (0, 0)) ∧ t ≤ arr.size) ∧ (∀ o, f ≤ o → m2 b o = none) ∧ (∀ id, purgeN (rootOf tk) bl id ≠ some b) ∧
        (∀ k' s, purgeS (rootOf tk) hh k' = some s → s.1 ≠ b)) →
      Rep m2 noNames (fun t => if t = (d, 0) then X else none) (.sl (some (d, 0)) sz (l ++ l2)) v → o.wp P a w next Q := by
    intro v w' m2 X hrun hbel hle hws hX hrep
    obtain ⟨q1, q2⟩ := hws.newTok hdfree hX
    unfold Oper.wp
    rw [hrun, Oper.upon_value]
    refine k _ _ m2 _ _ ⟨?_, ?_, hbel, q1, ?_, ?_⟩
    · simp [Act.put, hd, s.defers]
    · simp [Act.put, hd, s.size]
    · rw [hd]
      refine EnvRep.put (fun t x e => ((s1.env t x e).mono hle).widen (fun _ _ e => e) q2) (hrep.widen (by simp [noNames]) ?_) (by rw [s.size]; exact hdN d hd)
      intro k' s' e
      split at e
      · rename_i hk'; subst hk'; simp only [updTok, if_true]; exact e
      · cases e
    · intro d' hd'
      obtain ⟨g1, g2⟩ := hfr.2 d' hd'
      have := s1.free d' (by simpa [LS.purge] using g1)
      refine ⟨this.1, fun j => ?_⟩
      unfold updTok
      rw [if_neg]
      · exact this.2 j
      · intro he; simp at he; exact g2 he.1
  have hB := s.below.size
  have under := ht.under
  have hsz := ht.sz
  by_cases hl2 : l2 = []
  · -- nothing is appended
    subst hl2
    have hcs2 : cs2 = [] := List.eq_nil_of_length_eq_zero (by simpa using len2)
    subst hcs2
    have hrun : (Builtin.append_ #[t, t] o.type #[a.eval y, a.eval z]).run P w = .ok (a.eval y) w := by
      rw [hv1, hv2]
      cases ad1 <;> cases ad2 <;> simp [Builtin.append_, run_underlying_of under, run_sizeOf_of hsz, Builtin.lenOf, Builtin.firstCells, hc1, loadCells, loadCellsFrom, storeCells]
    refine fin (a.eval y) w m (tk.bind hh) (run_append ho hrun) s.below (Mem.le.refl m) s1.ws ?_ ?_
    · intro b f t' e
      obtain ⟨k0, hk0, hs0⟩ := Option.bind_eq_some_iff.1 e
      obtain ⟨g1, g2, g3, g4, g5⟩ := s.ws.spare k0 b f t' hs0
      refine ⟨g1, g2, g3, fun id he => g4 id (hbl id b he), fun k' x e' hx => ?_⟩
      obtain ⟨p1, p2⟩ := hsub k' x e'
      exact p2 k0 hk0 (g5 k' x p1 hx)
    · rw [hv1]
      cases had : ad1 with
      | none =>
        obtain ⟨rfl, rfl⟩ := emp1 had
        exact .slnil
      | some a1 =>
        obtain ⟨q1, q2, q3⟩ := at1 a1 had
        have := Rep.sl (m := m) (bl := noNames) (hh := fun t => if t = (d, 0) then tk.bind hh else none) (tk := some (d, 0)) (a := a1) (cap := cap1) elA repsA oneA (by simpa using q1) (by simpa using q2) (by simpa using hc1) (by
          intro k' e
          cases e
          obtain ⟨k0, hk0⟩ := Option.isSome_iff_exists.1 hk
          rcases q3 k0 hk0 with h | ⟨h1, h2⟩
          · exact .inl (by simpa using h)
          · exact .inr ⟨h1, by simp [hk0, h2]⟩)
        simpa using this
  · have hl2e : l2.isEmpty = false := by cases l2 with | nil => exact absurd rfl hl2 | cons => rfl
    have hpos2 : 0 < l2.length := by cases l2 with | nil => exact absurd rfl hl2 | cons => simp
    have hcpos2 : 0 < cs2.length := by rw [len2]; exact Nat.mul_pos hpos2 ht.pos
    obtain ⟨a2, ha2⟩ : ∃ a2, ad2 = some a2 := by
      cases h : ad2 with
      | none => exact absurd (emp2 h).1 hl2
      | some x => exact ⟨x, rfl⟩
    obtain ⟨z1, z2, -⟩ := at2 a2 ha2
    have hnews := cells_at s.ws.imm z1 z2
    have lenA : (cs1 ++ cs2).length = (l ++ l2).length * sz := by rw [List.length_append, len1, len2, List.length_append, Nat.add_mul]
    -- a new block
    have newb : ∀ (cap' : Nat) (Z : Array Value), l.length + l2.length ≤ cap' → Z.size = (cap' - (l.length + l2.length)) * sz →
        (Builtin.append_ #[t, t] o.type #[a.eval y, a.eval z]).run P w = .ok (.slice (some ⟨w.heap.size, 0, none⟩) (l.length + l2.length) cap') (w.drew.alloc (.cells ((cs1 ++ cs2).toArray ++ Z) E)) → o.wp P a w next Q := by
      intro cap' Z hcap hZ hrun
      obtain ⟨hs, hle⟩ := s1.ws.newBlk (w' := w.drew.alloc (.cells ((cs1 ++ cs2).toArray ++ Z) E)) (arr := (cs1 ++ cs2).toArray ++ Z) (T := E) (fr := (0, 0)) hB rfl (cs := cs1 ++ cs2)
        (fun j v e => by
          have hj : j < (cs1 ++ cs2).length := by
            rcases Nat.lt_or_ge j (cs1 ++ cs2).length with h | h
            · exact h
            · rw [List.getElem?_eq_none h] at e; cases e
          rw [Array.getElem?_append_left (by simpa using hj)]
          simpa using e)
      refine fin _ _ _ (some (w.heap.size, (l ++ l2).length * sz, cap' * sz)) (run_append ho hrun) (((s.below.drew).alloc hB _)) hle hs ?_ ?_
      · intro b f t' e
        simp only [Option.some.injEq, Prod.mk.injEq] at e
        obtain ⟨rfl, rfl, rfl⟩ := e
        refine ⟨hB, ⟨(cs1 ++ cs2).toArray ++ Z, E, by show (w.heap.push _)[w.heap.size]? = _; rw [Array.getElem?_push, if_pos rfl], ?_⟩, ?_, ?_, ?_⟩
        · rw [Array.size_append, List.size_toArray, lenA, hZ, List.length_append, ← Nat.add_mul]
          exact Nat.mul_le_mul_right _ (by omega)
        · intro o' ho'
          rw [addBlk_at, List.getElem?_eq_none (by rw [lenA]; exact ho')]
        · intro id he
          have := (s1.ws.own id _ he).2.1
          omega
        · rintro k' ⟨b', f', t'⟩ e' he
          obtain ⟨-, ⟨arr, T, g2, -⟩, -⟩ := s1.ws.spare k' b' f' t' e'
          simp only at he; subst he
          simp at g2
      · have := Rep.sl (m := addBlk m w.heap.size (cs1 ++ cs2)) (bl := noNames) (hh := fun t => if t = (d, 0) then some (w.heap.size, (l ++ l2).length * sz, cap' * sz) else none) (tk := some (d, 0)) (a := ⟨w.heap.size, 0, none⟩) (cap := cap')
          elA (repsA.mono hle) oneA (fun _ => rfl) (fun j v e => by simp only [Nat.zero_add]; rw [addBlk_at]; exact e) (by simpa using hcap) (by
            intro k' e
            cases e
            exact .inr ⟨rfl, by simp⟩)
        skip
        simpa using this
    cases had : ad1 with
    | none =>
      obtain ⟨rfl, rfl⟩ := emp1 had
      have hcs1 : cs1 = [] := List.eq_nil_of_length_eq_zero (by simpa using len1)
      subst hcs1
      have hrun := run_append_nil (P := P) w t o.type E i zv under hi1 hi2 a2 l2.length cap2 cs2 (by rw [hi3]; exact len2) hnews hpos2 (by simp at h63; omega) (by rw [hi4]; simp at hlen; omega)
      refine newb (grownCap w l2.length 0 E) _ (by simpa using grownCap_ge w l2.length 0 E) ?_ (by rw [hv1, hv2, ha2, had]; simpa using hrun)
      rw [size_zeroCells, hi5]; simp
    | some a1 =>
      obtain ⟨k0, hk0⟩ := Option.isSome_iff_exists.1 hk
      obtain ⟨q1, q2, q3⟩ := at1 a1 had
      by_cases hroom : l.length + l2.length ≤ cap1
      · -- in place
        rcases q3 k0 hk0 with h | ⟨hsp, hh0⟩
        · omega
        obtain ⟨b, off, sp⟩ := a1
        simp only at hsp hh0; subst hsp
        obtain ⟨g1, ⟨arr, T, g2, g2'⟩, g3, g4, g5⟩ := s.ws.spare k0 _ _ _ hh0
        have hfit : off + l.length * sz + cs2.length ≤ arr.size := by
          have : (l.length + l2.length) * sz ≤ cap1 * sz := Nat.mul_le_mul_right _ hroom
          rw [Nat.add_mul] at this
          omega
        have hst := run_storeCells_at P b (off + l.length * sz) T cs2 0 arr w g2 (by simpa using hfit) one2
        simp only [Nat.add_zero] at hst
        have hrun : (Builtin.append_ #[t, t] o.type #[a.eval y, a.eval z]).run P w = .ok (.slice (some ⟨b, off, none⟩) (l.length + l2.length) cap1)
            (w.setRow b (arr.toList.take (off + l.length * sz) ++ cs2 ++ arr.toList.drop (off + l.length * sz + cs2.length)).toArray) := by
          have hfc := run_firstCells_some (P := P) w sz l2.length a2 l2.length cap2 cs2 len2 hnews
          rw [hv1, hv2, had, ha2]
          simp [Builtin.append_, run_underlying_of under, run_sizeOf_of hsz, Builtin.lenOf, hroom, hfc, addr_add, hst]
        generalize hna : (arr.toList.take (off + l.length * sz) ++ cs2 ++ arr.toList.drop (off + l.length * sz + cs2.length)).toArray = na at hrun
        have hnsz : na.size = arr.size := by rw [← hna]; simp; omega
        have hna1 : ∀ o', o' < off + l.length * sz → na[o']? = arr[o']? := by
          intro o' ho'
          rw [← hna, List.append_assoc]
          simp only [List.getElem?_toArray]
          rw [List.getElem?_append_left (by simp; omega), List.getElem?_take, if_pos ho']
          simp
        have hna2 : ∀ o', off + l.length * sz ≤ o' → o' < off + l.length * sz + cs2.length → na[o']? = cs2[o' - (off + l.length * sz)]? := by
          intro o' h1 h2
          rw [← hna, List.append_assoc]
          simp only [List.getElem?_toArray]
          have hl : (arr.toList.take (off + l.length * sz)).length = off + l.length * sz := by simp; omega
          rw [List.getElem?_append_right (by omega), hl, List.getElem?_append_left (by omega)]
        have hheap := setRow_heap w b arr na T (0, 0) g2
        have hother : ∀ b', b' ≠ b → (w.setRow b na).heap[b']? = w.heap[b']? := fun b' h => setRow_other w b b' na h
        have hsize : (w.setRow b na).heap.size = w.heap.size := by simp [World.setRow]
        let m2 : Mem := fun b' o' => if b' = b ∧ off + l.length * sz ≤ o' ∧ o' < off + l.length * sz + cs2.length then cs2[o' - (off + l.length * sz)]? else m b' o'
        have hle : Mem.le m m2 := by
          intro b' o' v e
          show (if _ then _ else _) = some v
          rw [if_neg]
          · exact e
          · rintro ⟨rfl, h1, -⟩
            rw [g3 o' h1] at e; cases e
        have hm2 : ∀ b' o', b' ≠ b → m2 b' o' = m b' o' := by
          intro b' o' h
          show (if _ then _ else _) = _
          rw [if_neg]; exact fun h' => h h'.1
        refine fin _ _ m2 (some (b, off + l.length * sz + cs2.length, off + cap1 * sz)) (run_append ho hrun) ?_ hle ?_ ?_ ?_
        · exact s.below.trans ⟨rfl, rfl, rfl, by rw [hsize]; exact Nat.le_refl _, fun k' hk' => hother k' (by omega)⟩
        · refine ⟨?_, s.ws.le.trans hle, ?_, ?_, ?_, ?_, s1.ws.inj, ?_⟩
          · intro b' o' v e
            by_cases hb : b' = b
            · subst hb
              rw [cell_of_blk hheap]
              change (if _ then _ else _) = some v at e
              split at e
              · rename_i hc; rw [hna2 o' hc.2.1 hc.2.2]; exact e
              · have hlt : o' < off + l.length * sz := by
                  rcases Nat.lt_or_ge o' (off + l.length * sz) with h | h
                  · exact h
                  · rw [g3 o' h] at e; cases e
                rw [hna1 o' hlt]
                have := s.ws.imm b' o' v e
                rwa [cell_of_blk g2] at this
            · rw [hm2 b' o' hb] at e
              have := s.ws.imm b' o' v e
              simp only [World.cell?, hother b' hb] at this ⊢
              exact this
          · intro b' o' v e
            by_cases hb : b' = b
            · subst hb; exact .inr g1
            · rw [hm2 b' o' hb] at e; exact s.ws.grow b' o' v e
          · intro id l' hf'
            obtain ⟨b', arr', T', q1, q2, q3, q4⟩ := s1.ws.blk id l' hf'
            have hb : b' ≠ b := fun h => g4 id (by rw [hbl id b' q1, h])
            exact ⟨b', arr', T', q1, by rw [hother b' hb]; exact q2, q3.mono hle, q4⟩
          · intro id x p hf'
            obtain ⟨b', q1, q2⟩ := s1.ws.it id x p hf'
            have hb : b' ≠ b := fun h => g4 id (by rw [hbl id b' q1, h])
            exact ⟨b', q1, by rw [hother b' hb]; exact q2⟩
          · intro id b' q
            obtain ⟨q1, q2, q3⟩ := s1.ws.own id b' q
            have hb : b' ≠ b := fun h => g4 id (by rw [hbl id b' q, h])
            exact ⟨q1, by rw [hsize]; exact q2, fun o' => by rw [hm2 b' o' hb]; exact q3 o'⟩
          · intro k' b' f t' e
            obtain ⟨q1, ⟨arr', T', q2, q2'⟩, q3, q4, q5⟩ := s1.ws.spare k' b' f t' e
            obtain ⟨p1, p2⟩ := hsub k' _ e
            have hb : b' ≠ b := by
              rintro rfl
              exact p2 k0 hk0 (g5 k' _ p1 rfl)
            exact ⟨q1, ⟨arr', T', by rw [hother b' hb]; exact q2, q2'⟩, fun o' ho' => by rw [hm2 b' o' hb]; exact q3 o' ho', q4, q5⟩
        · intro b' f t' e
          simp only [Option.some.injEq, Prod.mk.injEq] at e
          obtain ⟨rfl, rfl, rfl⟩ := e
          refine ⟨g1, ⟨na, T, hheap, by rw [hnsz]; exact g2'⟩, ?_, ?_, ?_⟩
          · intro o' ho'
            show (if _ then _ else _) = none
            rw [if_neg (by rintro ⟨-, -, h⟩; omega)]
            exact g3 o' (by omega)
          · exact fun id he => g4 id (hbl id _ he)
          · intro k' x e' hx
            obtain ⟨p1, p2⟩ := hsub k' x e'
            exact p2 k0 hk0 (g5 k' x p1 hx)
        · have hcl : off + (l.length + l2.length) * sz = off + l.length * sz + cs2.length := by rw [len2, Nat.add_mul]; omega
          have := Rep.sl (m := m2) (bl := noNames) (hh := fun t => if t = (d, 0) then some (b, off + l.length * sz + cs2.length, off + cap1 * sz) else none) (tk := some (d, 0)) (a := ⟨b, off, none⟩) (cap := cap1)
            elA (repsA.mono hle) oneA (fun _ => rfl) (fun j v e => by
              by_cases hj : j < cs1.length
              · rw [List.getElem?_append_left hj] at e
                exact hle _ _ _ (q2 j v e)
              · rw [List.getElem?_append_right (by omega)] at e
                have hj2 : j - cs1.length < cs2.length := by
                  rcases Nat.lt_or_ge (j - cs1.length) cs2.length with h | h
                  · exact h
                  · rw [List.getElem?_eq_none h] at e; cases e
                show (if _ then _ else _) = some v
                rw [if_pos ⟨rfl, by simp only; omega, by simp only; omega⟩, ← e]
                congr 1
                simp only; omega) (by simpa using hroom) (by
              intro k' e
              cases e
              refine .inr ⟨rfl, ?_⟩
              simp only [if_true, Option.some.injEq, Prod.mk.injEq, true_and, List.length_append]
              exact ⟨hcl.symm, trivial⟩)
          skip
          simpa using this
      · have hrun := run_append_grow (P := P) w t o.type E i zv under hi1 hi2 a1 l.length cap1 cs1 (by rw [hi3]; exact len1) (cells_at s.ws.imm q1 q2) a2 l2.length cap2 cs2 (by rw [hi3]; exact len2) hnews
          (by omega) (by omega) (by rw [hi4]; exact growslice_fits (by omega) hlen)
        refine newb (grownCap w (l.length + l2.length) cap1 E) _ (grownCap_ge w _ _ E) ?_ (by rw [hv1, hv2, ha2, had]; simpa [List.append_assoc] using hrun)
        rw [size_zeroCells, hi5]

end Go.Cx
