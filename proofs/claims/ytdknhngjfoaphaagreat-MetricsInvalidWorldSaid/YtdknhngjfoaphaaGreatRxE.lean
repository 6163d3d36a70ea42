/-
  The operations that only yield a value, each by its rule. Conditions: those named in each rule.
-/
import Derived.Test.YtdknhngjfoaphaaGreatRxD
set_option linter.all false
namespace Go.Rx
open Go.RowKit
section
variable {P : Program} {o : Oper} {e : Env}
def tZero (P : Program) (t : TypeId) : Option (List Value) := ((P.info? t).bind (·.zero)).map fun z => z.cells.toList

theorem run_zero_of {P : Program} {t : TypeId} {zs : List Value} (h : tZero P t = some zs) (w : World) : ∃ z : Value, (zeroValue t).run P w = .ok z w ∧ z.cells.toList = zs := by
  unfold tZero at h
  cases hu : P.info? t with
  | none => simp [hu] at h
  | some d =>
    cases hz : d.zero with
    | none => simp [hu, hz] at h
    | some z => simp [hu, hz] at h; exact ⟨z, by simp [zeroValue, typeInfo, hu, hz], by simpa using h⟩

theorem foldl_set (off : Nat) : ∀ (vs : List Value) (k : Nat) (arr : Array Value), off + k + vs.length ≤ arr.size →
    ((vs.zipIdx k).foldl (fun (cs : Array Value) (c : Value × Nat) => cs.setIfInBounds (off + c.2) c.1) arr).toList = arr.toList.take (off + k) ++ vs ++ arr.toList.drop (off + k + vs.length)
  | [], k, arr, h => by simp
  | v :: vs, k, arr, h => by
    simp only [List.length_cons] at h
    rw [List.zipIdx_cons, List.foldl_cons, foldl_set off vs (k + 1) _ (by simp; omega)]
    simp only [Array.toList_setIfInBounds, List.length_cons]
    have hk : off + k < arr.toList.length := by simp; omega
    rw [show off + (k + 1) = off + k + 1 from by omega, List.take_set, List.drop_set]
    rw [if_pos (by omega)]
    rw [List.take_succ_eq_append_getElem hk, List.set_append_right _ _ (by simp; omega)]
    simp only [List.length_take, Nat.min_eq_left (Nat.le_of_lt hk), Nat.sub_self, List.set_cons_zero]
    simp [List.append_assoc]
    congr 1; omega

inductive FillOk (e : Env) (pl : Nat → Option (Nat × Nat)) : List (Nat × Operand) → List AV → List AV → Prop
  | nil {Z} : FillOk e pl [] Z Z
  | cons {i y x off sz rest Z Z'} : pl i = some (off, sz) → OpdOk e y x → x.solid = true → x.cells.length = sz → off + sz ≤ Z.length →
      FillOk e pl rest (Z.take off ++ x.cells ++ Z.drop (off + sz)) Z' → FillOk e pl ((i, y) :: rest) Z Z'

theorem FillOk.run {e pl ps Z Z'} (h : FillOk e pl ps Z Z') {o : Oper} {m bl a} (hr : Reads o e m bl a) (hx : ∀ p ∈ ps, p.2 ∈ o.op.operands) :
    ∀ (cells : Array Value), Reps m bl Z cells.toList → (∀ c ∈ cells.toList, oneCell c = true) →
      ∃ cells', Instr.fill pl cells (ps.map fun (i, x) => (i, a.eval x)) = some cells' ∧ Reps m bl Z' cells'.toList ∧ (∀ c ∈ cells'.toList, oneCell c = true) := by
  induction h with
  | nil => exact fun cells h1 h2 => ⟨cells, rfl, h1, h2⟩
  | @cons i y x off sz rest Z Z' hp hy hs hl hfit _ ih =>
    intro cells h1 h2
    have hrep := hy.rep hr (hx (i, y) (by simp))
    obtain ⟨g1, g2⟩ := hrep.cells hs
    have hsz : (a.eval y).cells.size = sz := by have := g1.length; simp at this; omega
    have hZ : cells.size = Z.length := by have := h1.length; simp at this; omega
    have e1 : ((a.eval y).cells.zipIdx.foldl (fun cs (c, j) => cs.setIfInBounds (off + j) c) cells).toList = cells.toList.take off ++ (a.eval y).cells.toList ++ cells.toList.drop (off + sz) := by
      rw [← Array.foldl_toList, Array.toList_zipIdx]
      have := foldl_set off (a.eval y).cells.toList 0 cells (by simp; omega)
      simp only [Nat.add_zero, Array.length_toList, hsz] at this
      exact this
    obtain ⟨cells', k1, k2, k3⟩ := ih (fun p hp => hx p (by simp [hp])) ((a.eval y).cells.zipIdx.foldl (fun cs (c, j) => cs.setIfInBounds (off + j) c) cells)
      (by rw [e1]; exact ((h1.take off).append g1).append (h1.drop _))
      (by
        rw [e1]; intro c hc
        rcases List.mem_append.1 hc with hc | hc
        · rcases List.mem_append.1 hc with hc | hc
          · exact h2 c (List.mem_of_mem_take hc)
          · exact g2 c hc
        · exact h2 c (List.mem_of_mem_drop hc))
    refine ⟨cells', ?_, k2, k3⟩
    simp only [List.map_cons, Instr.fill, hp]
    rw [if_neg (by simp; omega)]
    exact k1

def fieldPl (P : Program) (fs : Array Field) (i : Nat) : Option (Nat × Nat) := (fs[i]?).map fun f => (f.offset, (tSz P f.type).getD 0)

theorem run_fields {P : Program} (w : World) : ∀ (l : List Field), (∀ f ∈ l, (tSz P f.type).isSome = true) →
    (l.mapM fun f => (do Pure.pure (f.offset, ← sizeOf f.type) : Sem (Nat × Nat))).run P w = .ok (l.map fun f => (f.offset, (tSz P f.type).getD 0)) w
  | [], _ => by simp
  | f :: l, h => by
    obtain ⟨n, hn⟩ := Option.isSome_iff_exists.1 (h f (by simp))
    have ih := run_fields w l fun g hg => h g (by simp [hg])
    have e1 : (do Pure.pure (f.offset, ← sizeOf f.type) : Sem (Nat × Nat)).run P w = .ok (f.offset, n) w := by simp [run_sizeOf_of hn]
    rw [List.mapM_cons, Sem.run_bind, e1]
    simp only [Result.andThen_ok]
    rw [Sem.run_bind, ih]
    simp [hn]

def addBlk (m : Mem) (b : Nat) (cs : List Value) : Mem := fun b' o => if b' = b then cs[o]? else m b' o

theorem WSim.newBlk {B m0 h m bl w w'} {arr : Array Value} {T : TypeId} {fr : Nat × Nat} (s : WSim B m0 h m bl w) (hB : B ≤ w.heap.size) (hw : w'.heap = w.heap.push (.cells arr T fr)) {cs : List Value}
    (hc : ∀ (j : Nat) (v : Value), cs[j]? = some v → arr[j]? = some v) : WSim B m0 h (addBlk m w.heap.size cs) bl w' ∧ Mem.le m (addBlk m w.heap.size cs) := by
  have hne : ∀ b o v, m b o = some v → b ≠ w.heap.size := fun b o v e he => by have := s.imm.lt e; omega
  have hle : Mem.le m (addBlk m w.heap.size cs) := by
    intro b o v e
    simp only [addBlk]; rw [if_neg (hne b o v e)]; exact e
  have hold : ∀ b, b < w.heap.size → w'.heap[b]? = w.heap[b]? := by
    intro b hb; rw [hw, Array.getElem?_push, if_neg (by omega)]
  have hnew : w'.heap[w.heap.size]? = some (.cells arr T fr) := by rw [hw, Array.getElem?_push, if_pos rfl]
  refine ⟨⟨?_, s.le.trans hle, ?_, ?_, ?_, ?_, s.inj⟩, hle⟩
  · intro b o v e
    simp only [addBlk] at e
    split at e
    · rename_i hb; subst hb
      rw [cell_of_blk hnew]; exact hc o v e
    · have := s.imm b o v e
      have hb := s.imm.lt e
      simp only [World.cell?, hold b hb] at this ⊢
      exact this
  · intro b o v e
    simp only [addBlk] at e
    split at e
    · rename_i hb; exact .inr (by omega)
    · exact s.grow b o v e
  · intro id l hf
    rcases s.blk id l hf with h | ⟨b, n, arr', T', pre, rest, g1, g2, g3, g4, g5, g6⟩
    · exact .inl h
    · exact .inr ⟨b, n, arr', T', pre, rest, g1, by rw [hold b (s.own id b n g1).2.1]; exact g2, g3, g4, g5.mono hle, g6⟩
  · intro id x p hf
    obtain ⟨b, n, g1, g2⟩ := s.it id x p hf
    exact ⟨b, n, g1, by rw [hold b (s.own id b n g1).2.1]; exact g2⟩
  · intro id b n g
    obtain ⟨g1, g2, g3⟩ := s.own id b n g
    refine ⟨g1, by rw [hw, Array.size_push]; omega, fun o => ?_⟩
    simp only [addBlk]; rw [if_neg (by omega)]; exact g3 o
theorem addBlk_at (m : Mem) (b : Nat) (cs : List Value) (o : Nat) : addBlk m b cs b o = cs[o]? := by simp [addBlk]

inductive ElemsOk (e : Env) (sz : Nat) : Nat → List (Nat × Operand) → List AV → Prop
  | nil {i} : ElemsOk e sz i [] []
  | cons {i y x rest l} : OpdOk e y x → x.solid = true → x.cells.length = sz → x.isBare = true → ElemsOk e sz (i + 1) rest l → ElemsOk e sz i ((i, y) :: rest) (x :: l)

theorem ElemsOk.len {e sz i ps l} (h : ElemsOk e sz i ps l) : ∀ x ∈ l, x.cells.length = sz := by
  induction h with
  | nil => simp
  | cons _ _ hl _ _ ih =>
    intro x hx
    rcases List.mem_cons.1 hx with rfl | hx
    · exact hl
    · exact ih x hx

theorem ElemsOk.bare {e sz i ps l} (h : ElemsOk e sz i ps l) : allBare (l.flatMap AV.cells) = true := by
  induction h with
  | nil => rfl
  | @cons _ _ x _ _ _ hs _ hb _ ih =>
    rw [List.flatMap_cons]
    show cleanL _ _ = true
    rw [cleanL_append, Bool.and_eq_true]
    refine ⟨?_, ih⟩
    cases x <;> simp_all [AV.cells, AV.isBare, AV.clean, cleanL]

theorem ElemsOk.fill {e sz i ps l} (h : ElemsOk e sz i ps l) : ∀ Z : List AV, (i + l.length) * sz ≤ Z.length →
    FillOk e (fun i => some (i * sz, sz)) ps Z (Z.take (i * sz) ++ l.flatMap AV.cells ++ Z.drop ((i + l.length) * sz)) := by
  induction h with
  | nil => intro Z hZ; simp; exact .nil
  | @cons i y x rest l hy hs hl _ _ ih =>
    intro Z hZ
    simp only [List.length_cons] at hZ
    have e0 : (i + (l.length + 1)) * sz = i * sz + sz + l.length * sz := by rw [Nat.add_mul, Nat.add_mul]; omega
    have e1 : (i + 1) * sz = i * sz + sz := by rw [Nat.add_mul]; omega
    rw [e0] at hZ
    refine .cons rfl hy hs hl (by omega) ?_
    have hlenZ : (Z.take (i * sz) ++ x.cells ++ Z.drop (i * sz + sz)).length = Z.length := by simp [hl]; omega
    have e2 : (i + 1 + l.length) * sz = i * sz + sz + l.length * sz := by rw [Nat.add_mul, e1]
    have := ih (Z.take (i * sz) ++ x.cells ++ Z.drop (i * sz + sz)) (by rw [hlenZ, e2]; exact hZ)
    have hA : (Z.take (i * sz) ++ x.cells).length = (i + 1) * sz := by simp [hl, e1]; omega
    have t1 : (Z.take (i * sz) ++ x.cells ++ Z.drop (i * sz + sz)).take ((i + 1) * sz) = Z.take (i * sz) ++ x.cells := List.take_left' hA
    have t2 : (Z.take (i * sz) ++ x.cells ++ Z.drop (i * sz + sz)).drop ((i + 1 + l.length) * sz) = Z.drop ((i + (l.length + 1)) * sz) := by
      have : (i + 1 + l.length) * sz = (i + 1) * sz + l.length * sz := Nat.add_mul _ _ _
      rw [this, ← List.drop_drop, List.drop_left' hA, List.drop_drop, e0]
    rw [t1, t2] at this
    simpa [List.append_assoc, List.flatMap_cons, Nat.add_assoc, Nat.add_comm 1] using this

structure ElemT (P : Program) (t E sz by_ : Nat) : Prop where
  under : P.underlying t = some (.slice E)
  info : ∃ i z, P.info? E = some i ∧ i.zero = some z ∧ i.size = sz ∧ i.bytes = by_ ∧ z.cells.size = sz ∧ z.cells.toList.all oneCell = true
  pos : 0 < sz

theorem ElemT.sz {P t E sz by_} (h : ElemT P t E sz by_) : tSz P E = some sz := by
  obtain ⟨i, z, h1, _, h2, _⟩ := h.info
  simp [tSz, h1, h2]

def rangeFill (zero : Array Value) (k : Nat) : Array Value := (Array.range k).map (zero[· % zero.size]!)
theorem QEx.buildSlice {t E sz by_ n ps l} (ho : o.op = .buildSlice t n ps) (ht : ElemT P t E sz by_) (h : ElemsOk e sz 0 ps.toList l) (hn : l.length = n) (hlim : n * sz ≤ 2 ^ 24) :
    QEx P o e [] (.sl true sz l) := by
  intro B m0 hp m bl a w hws hB _ hr next Q k
  obtain ⟨i, z, hi1, hi2, hi3, hi4, hi5, hi6⟩ := ht.info
  have hZ : ∃ zs : Array Value, zs.size = n * sz ∧ (∀ c ∈ zs.toList, oneCell c = true) ∧ zs = rangeFill (if n * sz = 0 then #[] else z.cells) (n * sz) := by
    refine ⟨_, by simp [rangeFill], ?_, rfl⟩
    intro c hc
    simp only [rangeFill, Array.toList_map, Array.toList_range, List.mem_map, List.mem_range] at hc
    obtain ⟨j, hj, rfl⟩ := hc
    have hne : ¬ n * sz = 0 := by omega
    simp only [hne, if_false]
    have hlt : j % z.cells.size < z.cells.size := Nat.mod_lt _ (by rw [hi5]; exact ht.pos)
    rw [getElem!_pos z.cells _ hlt]
    exact List.all_eq_true.1 hi6 _ (by simp)
  obtain ⟨zs, hz1, hz2, hz3⟩ := hZ
  have hfill := h.fill (List.replicate (n * sz) AV.undef) (by simp [hn])
  obtain ⟨cells', k1, k2, k3⟩ := hfill.run (o := o) hr (fun p hp => by rw [ho]; simp only [Op.operands]; simp; exact ⟨p.1, by simpa using hp⟩) zs
    (by
      have : ∀ (vs : List Value), Reps m bl (List.replicate vs.length AV.undef) vs := by
        intro vs; induction vs with
        | nil => exact .nil
        | cons v vs ih => exact .cons .undef ih
      have := this zs.toList
      rwa [Array.length_toList, hz1] at this) hz2
  simp only [Nat.zero_mul, Nat.zero_add, List.take_zero, List.nil_append, hn] at k2
  rw [List.drop_of_length_le (by simp), List.append_nil] at k2
  obtain ⟨hs, hle⟩ := hws.newBlk (w' := w.alloc (.cells cells' E)) (arr := cells') (T := E) (fr := (0, 0)) hB rfl (cs := cells'.toList) (fun j v e => by simpa using e)
  have hrun : (execOp a.eval o).run P w = .ok (.value (.slice (some ⟨w.heap.size, 0, none⟩) n n)) (w.alloc (.cells cells' E)) := by
    have hlim' : ¬ (2 ^ 24 < n * sz) := by omega
    have k1' : Instr.fill (fun i => some (i * sz, sz)) zs (ps.map fun (i, x) => (i, a.eval x)).toList = some cells' := by simpa using k1
    subst hz3
    unfold rangeFill at k1'
    by_cases h0 : n * sz = 0
    · simp only [h0, if_true] at k1'
      simp at k1'
      simp only [execOp, ho, Instr.buildSlice, Sem.run_bind, run_underlying_of ht.under, Result.andThen_ok, run_sizeOf_of ht.sz, h0]
      simp [k1', newRow]
    · simp only [h0, if_false] at k1'
      simp at k1'
      simp only [execOp, ho, Instr.buildSlice, Sem.run_bind, run_underlying_of ht.under, Result.andThen_ok, run_sizeOf_of ht.sz]
      simp [hlim', h0, zeroValue, typeInfo, hi1, hi2, k1', newRow]
  unfold Oper.wp
  rw [hrun, Oper.upon_value]
  subst hn
  refine k _ _ (addBlk m w.heap.size cells'.toList) hle ((Below.refl _ _).alloc (Nat.le_refl _) _) hs ?_
  refine .sl (cs := cells'.toList) h.len ?_ k3 (fun _ => rfl) (fun j v e => ?_) (Nat.le_refl _) (fun _ => rfl)
  · have := (k2.bare (bl' := noNames)).mono hle
    rwa [bareL, bareL_of h.bare] at this
  · simp only [Nat.zero_add]; rw [addBlk_at]; exact e

inductive BoundOk (e : Env) : Option Operand → Nat → Nat → Prop
  | none {n} : BoundOk e none n n
  | some {y k i n} : OpdOk e y (.v (.int k i)) → 0 ≤ i → BoundOk e (some y) n i.toNat

theorem QEx.slice {t y lo hi E sz by_ c l a b} (ho : o.op = .slice t y lo hi none) (ht : ElemT P t E sz by_) (hy : OpdOk e y (.sl c sz l))
    (hlo : BoundOk e lo 0 a) (hhi : BoundOk e hi l.length b) (hab : a ≤ b) (hb : b ≤ l.length) : QEx P o e [] (.sl false sz ((l.drop a).take (b - a))) :=
  .pure fun _ _ _ m bl ac w hws _ hr => by
    have h1 := hy.rep hr (by simp [ho, Op.operands])
    generalize hv : ac.eval y = v at h1
    have e1 : ∀ len cap : Nat, b ≤ cap → (hi = none → b = len) → (Instr.sliceBounds true len cap (lo.map ac.eval) (hi.map ac.eval) none).run P w = .ok (a, b, cap) w := by
      intro len cap hc hn
      cases hlo with
      | none =>
        cases hhi with
        | none => simp [Instr.sliceBounds, hn rfl]
        | some h2 h3 =>
          have := (h2.rep hr (by simp [ho, Op.operands])).eq_v
          rename_i k i
          have hi' : i ≤ (cap : Int) := by omega
          simp [Instr.sliceBounds, this, Instr.sliceBound, asIntOf, h3, hi']
      | some g2 g3 =>
        have hg := (g2.rep hr (by simp [ho, Op.operands])).eq_v
        rename_i gk gi
        cases hhi with
        | none =>
          have hi' : gi ≤ (len : Int) := by have := hn rfl; omega
          simp [Instr.sliceBounds, hg, Instr.sliceBound, asIntOf, g3, hi', hn rfl]
        | some h2 h3 =>
          have := (h2.rep hr (by simp [ho, Op.operands])).eq_v
          rename_i k i
          have hi' : i ≤ (cap : Int) := by omega
          have hg' : gi ≤ i := by omega
          have hm : max i 0 = i := by omega
          simp [Instr.sliceBounds, this, hg, Instr.sliceBound, asIntOf, h3, hi', g3, hg', hm]
    have e2 : hi = none → b = l.length := by intro h; subst h; cases hhi; rfl
    cases h1 with
    | slnil =>
      simp at hb; subst hb
      have ha : a = 0 := by omega
      subst ha
      refine ⟨.slice none 0 0, ?_, by simpa using Rep.slnil⟩
      have := e1 0 0 (Nat.le_refl _) (fun _ => rfl)
      simp [execOp, ho, hv, Instr.sliceAt, run_underlying_of ht.under, Instr.slice, this, run_sizeOf_of ht.sz]
    | sl g1 g2 g3 g4 g5 g6 g7 =>
      rename_i ad cap cs
      have hrun := e1 l.length cap (by omega) e2
      have hl' : ((l.drop a).take (b - a)).length = b - a := by simp; omega
      refine ⟨.slice (some (if cap = a then ad else ad.add (a * sz))) (b - a) (cap - a), ?_, ?_⟩
      · simp only [execOp, ho, hv, Instr.sliceAt, Sem.run_bind, run_underlying_of ht.under, Result.andThen_ok, Instr.slice, Option.map_none, hrun, run_sizeOf_of ht.sz, Sem.run_pure]
        by_cases hca : cap = a
        · simp [hca]
        · simp [hca]
      · have hcl := g2.length
        rw [flat_len g1] at hcl
        have key : Rep m bl (.sl false sz ((l.drop a).take (b - a))) (.slice (some (if cap = a then ad else ad.add (a * sz))) ((l.drop a).take (b - a)).length (cap - a)) := by
          refine .sl (cs := (cs.drop (a * sz)).take ((b - a) * sz)) (fun x hx => g1 x (List.mem_of_mem_drop (List.mem_of_mem_take hx))) ?_ (fun c hc => g3 c (List.mem_of_mem_drop (List.mem_of_mem_take hc))) ?_ ?_ (by rw [hl']; omega) (by simp)
          · have := (g2.drop (a * sz)).take ((b - a) * sz)
            rw [flat_drop a g1, flat_take (b - a) (fun x hx => g1 x (List.mem_of_mem_drop hx))] at this
            exact this
          · intro hlen
            have hcs : 0 < cs.length := by simp at hlen; omega
            have hsp := g4 hcs
            split
            · exact hsp
            · obtain ⟨ab, ao, as⟩ := ad
              simp only at hsp; subst hsp
              rw [addr_add]
          · intro j v hj
            have hne : ¬ cap = a := by
              intro hc
              have hba : b - a = 0 := by omega
              rw [hba] at hj
              simp at hj
            rw [if_neg hne]
            have h0 : 0 < cs.length := by
              rcases Nat.eq_zero_or_pos cs.length with h | h
              · have : cs = [] := List.eq_nil_of_length_eq_zero h
                subst this; simp at hj
              · exact h
            have hsp := g4 h0
            obtain ⟨ab, ao, as⟩ := ad
            simp only at hsp; subst hsp
            rw [addr_add]
            have := g5 _ v (take_drop_get hj)
            simp only
            rw [Nat.add_assoc]; exact this
        rwa [hl'] at key

theorem QEx.slice3 {t y hi mx E sz by_ c l k k' i} (ho : o.op = .slice t y none (some hi) (some mx)) (ht : ElemT P t E sz by_) (hy : OpdOk e y (.sl c sz l))
    (hhi : OpdOk e hi (.v (.int k i))) (hmx : OpdOk e mx (.v (.int k' i))) (h0 : 0 ≤ i) (h1 : i ≤ l.length) : QEx P o e [] (.sl true sz (l.take i.toNat)) :=
  .pure fun _ _ _ m bl ac w hws _ hr => by
    have q1 := hy.rep hr (by simp [ho, Op.operands])
    have q2 := (hhi.rep hr (by simp [ho, Op.operands])).eq_v
    have q3 := (hmx.rep hr (by simp [ho, Op.operands])).eq_v
    generalize hv : ac.eval y = v at q1
    cases q1 with
    | slnil =>
      have : i = 0 := by simp at h1; omega
      subst this
      refine ⟨.slice none 0 0, ?_, by simpa using Rep.slnil⟩
      simp [execOp, ho, hv, Instr.sliceAt, run_underlying_of ht.under, Instr.slice, Instr.sliceBounds, q2, q3, Instr.sliceBound, asIntOf, run_sizeOf_of ht.sz]
    | sl g1 g2 g3 g4 g5 g6 g7 =>
      rename_i ad cap cs
      have hl : (l.take i.toNat).length = i.toNat := by simp; omega
      refine ⟨.slice (some ad) i.toNat i.toNat, ?_, ?_⟩
      · have hc : i ≤ (cap : Int) := by omega
        simp [execOp, ho, hv, Instr.sliceAt, run_underlying_of ht.under, Instr.slice, Instr.sliceBounds, q2, q3, Instr.sliceBound, asIntOf, run_sizeOf_of ht.sz, Addr.add, h0, hc]
        try (intro h; omega)
      · have := Rep.sl (m := m) (bl := bl) (c := true) (sz := sz) (l := l.take i.toNat) (a := ad) (cap := i.toNat) (cs := cs.take (i.toNat * sz)) (fun x hx => g1 x (List.mem_of_mem_take hx)) (by
          have := g2.take (i.toNat * sz); rwa [flat_take _ g1] at this) (fun c hc => g3 c (List.mem_of_mem_take hc)) (fun h => g4 (by simp at h; omega)) (fun j v e => g5 j v (take_get e)) (by rw [hl]; exact Nat.le_refl _) (fun _ => hl.symm)
        rwa [hl] at this

theorem sl_cells {m bl c sz l v} (h : Rep m bl (.sl c sz l) v) : ∃ ad n cap cs, v = .slice ad n cap ∧ n = l.length ∧ n ≤ cap ∧ (∀ x ∈ l, x.cells.length = sz) ∧ Reps m noNames (l.flatMap AV.cells) cs ∧
    (∀ c ∈ cs, oneCell c = true) ∧ (ad = none → l = [] ∧ cap = 0) ∧ (c = true → cap = n) ∧ (∀ a, ad = some a → (0 < cs.length → a.spot = none) ∧ (∀ j v, cs[j]? = some v → m a.block (a.off + j) = some v)) := by
  cases h with
  | slnil => exact ⟨none, 0, 0, [], rfl, rfl, Nat.le_refl _, by simp, .nil, by simp, by simp, fun _ => rfl, by simp⟩
  | sl g1 g2 g3 g4 g5 g6 g7 => exact ⟨_, _, _, _, rfl, rfl, g6, g1, g2, g3, by simp, g7, fun a ha => by cases ha; exact ⟨g4, g5⟩⟩
theorem cells_at {m : Mem} {w : World} (hi : Imm m w) {ad : Addr} {cs : List Value} (h1 : 0 < cs.length → ad.spot = none) (h2 : ∀ j v, cs[j]? = some v → m ad.block (ad.off + j) = some v) :
    ∀ j v, cs[j]? = some v → w.cell? (ad.add j) = some v := by
  intro j v e
  have hpos : 0 < cs.length := by
    rcases Nat.eq_zero_or_pos cs.length with h | h
    · have : cs = [] := List.eq_nil_of_length_eq_zero h
      subst this; simp at e
    · exact h
  have hs := h1 hpos
  obtain ⟨b, off, sp⟩ := ad
  simp only at hs; subst hs
  rw [addr_add]
  exact hi _ _ _ (h2 j v e)

def byteAV (b : UInt8) : AV := .v (.int .u8 b.toNat)
theorem flat_bytes : ∀ (bs : List UInt8), (bs.map byteAV).flatMap AV.cells = bs.map byteAV
  | [] => rfl
  | b :: bs => by rw [List.map_cons, List.flatMap_cons, flat_bytes bs]; rfl

theorem Reps.bytes {m bl} : ∀ {bs : List UInt8} {cs}, Reps m bl (bs.map byteAV) cs → cs = bs.map fun b => Value.int .u8 b.toNat
  | [], _, .nil => rfl
  | b :: bs, _, .cons h t => by
    rw [List.map_cons, ← t.bytes]
    congr 1
    exact h.eq_v
theorem Reps.of_bytes {m bl} : ∀ (bs : List UInt8), Reps m bl (bs.map byteAV) (bs.map fun b => Value.int .u8 b.toNat)
  | [] => .nil
  | b :: bs => .cons .v (Reps.of_bytes bs)

theorem QEx.bytesStr {s d y E c l} {bs : List UInt8} (ho : o.op = .convert s d y) (hs : P.underlying s = some (.slice E)) (hE : P.underlying E = some (.int .u8)) (hd : P.underlying d = some .string)
    (hy : OpdOk e y (.sl c 1 l)) (hl : l = bs.map byteAV) : QEx P o e [] (.v (.string ⟨bs.toArray⟩)) :=
  .pure fun _ _ _ m bl ac w hws _ hr => by
    subst hl
    have h1 := hy.rep hr (by simp [ho, Op.operands])
    obtain ⟨ad, n, cap, cs, hv, hn, hc, el, reps, one, emp, -, at_⟩ := sl_cells h1
    refine ⟨_, ?_, .v⟩
    rw [flat_bytes] at reps
    have hcs := reps.bytes
    cases had : ad with
    | none =>
      obtain ⟨hb, hc0⟩ := emp had
      have hb' : bs = [] := by simpa using hb
      subst hb'
      have := run_convert_bytes_nil (P := P) w s E hs hE n cap d hd
      rw [had] at hv
      simp only [execOp, ho, hv, Sem.run_bind, this, Result.andThen_ok, Sem.run_pure]
      rfl
    | some a =>
      obtain ⟨q1, q2⟩ := at_ a had
      have hl := run_loadCells_list (P := P) w a cs (cells_at hws.imm q1 q2)
      have hlen : cs.length = n := by rw [hn, hcs]; simp
      rw [hlen, hcs] at hl
      have hm : (bs.map fun b => Value.int .u8 b.toNat) = (bs.map fun b => (b.toNat : Int)).map (Value.int .u8) := by simp
      rw [hm] at hl
      have h2 := run_bytesToString (P := P) w a n cap _ hl
      have h3 := run_convert_bytes_string (P := P) w s d E (some a) n cap hs hE hd
      rw [foldl_push_byteCells] at h2
      rw [had] at hv
      simp only [execOp, ho, hv, Sem.run_bind, h3, h2, Result.andThen_ok, Sem.run_pure]
      simp

theorem QEx.strBytes {s d y E st} (ho : o.op = .convert s d y) (hs : P.underlying s = some .string) (hd : P.underlying d = some (.slice E)) (hE : P.underlying E = some (.int .u8)) (hy : OpdOk e y (.v (.string st))) :
    QEx P o e [] (.sl false 1 (st.data.toList.map byteAV)) := by
  intro B m0 hp m bl a w hws hB _ hr next Q k
  have h1 := (hy.rep hr (by simp [ho, Op.operands])).eq_v
  have hrun := run_bytes_of_string (P := P) w s d E st hs hd hE
  have hge := grownCap_ge w st.size 0 E
  have hbr : ∀ c, bytesRow st c = ((st.data.toList.map fun b => Value.int .u8 b.toNat).toArray ++ Array.replicate (c - st.size) (.int .u8 0)) := by
    intro c; unfold bytesRow; rw [← Array.toList_inj]; simp
  generalize grownCap w st.size 0 E = cap at hrun hge
  obtain ⟨hs', hle⟩ := hws.newBlk (w' := w.drew.alloc (.cells (bytesRow st cap) E ((bytesRow st cap).size, (bytesRow st cap).size + 1))) (arr := bytesRow st cap) (T := E) (fr := ((bytesRow st cap).size, (bytesRow st cap).size + 1)) hB rfl
    (cs := st.data.toList.map fun b => Value.int .u8 b.toNat) (fun j v e => by
      have hj : j < (st.data.toList.map fun b => Value.int .u8 b.toNat).length := by
        rcases Nat.lt_or_ge j (st.data.toList.map fun b => Value.int .u8 b.toNat).length with h | h
        · exact h
        · rw [List.getElem?_eq_none h] at e; cases e
      rw [hbr, Array.getElem?_append_left (by simpa using hj)]
      simpa using e)
  have hrun2 : (execOp a.eval o).run P w = .ok (.value (.slice (some ⟨w.heap.size, 0, none⟩) st.size cap)) (w.drew.alloc (.cells (bytesRow st cap) E ((bytesRow st cap).size, (bytesRow st cap).size + 1))) := by
    simp only [execOp, ho, h1, Sem.run_bind, hrun, Result.andThen_ok, Sem.run_pure]
  unfold Oper.wp
  rw [hrun2, Oper.upon_value]
  refine k _ _ _ hle (((Below.refl _ _).drew).alloc (Nat.le_refl _) _) hs' ?_
  have hlen : (st.data.toList.map byteAV).length = st.size := by simp
  have := Rep.sl (m := addBlk m w.heap.size (st.data.toList.map fun b => Value.int .u8 b.toNat)) (bl := bl) (c := false) (sz := 1) (l := st.data.toList.map byteAV) (a := ⟨w.heap.size, 0, none⟩) (cap := cap)
    (by intro x hx; obtain ⟨b, -, rfl⟩ := List.mem_map.1 hx; rfl) (by rw [flat_bytes]; exact Reps.of_bytes _) (by intro c hc; obtain ⟨b, -, rfl⟩ := List.mem_map.1 hc; rfl) (fun _ => rfl)
    (fun j v e => by simp only [Nat.zero_add]; rw [addBlk_at]; exact e) (by rw [hlen]; exact hge) (by simp)
  rwa [hlen] at this

theorem QEx.max2 {x y ts k a b} (ho : o.op = .call { callee := .builtin .max, args := #[x, y], argTypes := ts }) (hx : OpdOk e x (.v (.int k a))) (hy : OpdOk e y (.v (.int k b))) :
    QEx P o e [] (.v (.int k (max a b))) :=
  .pure fun _ _ _ m bl ac w hws _ hr => by
    have h1 := (hx.rep hr (by simp [ho, Op.operands, Call.operands])).eq_v
    have h2 := (hy.rep hr (by simp [ho, Op.operands, Call.operands])).eq_v
    refine ⟨_, ?_, .v⟩
    have : (if b > a then b else a) = max a b := by split <;> omega
    simp [execOp, ho, h1, h2, resolve, invoke, builtin, Builtin.max_, Builtin.max2]
    simpa using this

theorem QEx.min2 {x y ts k a b} (ho : o.op = .call { callee := .builtin .min, args := #[x, y], argTypes := ts }) (hx : OpdOk e x (.v (.int k a))) (hy : OpdOk e y (.v (.int k b))) :
    QEx P o e [] (.v (.int k (min a b))) :=
  .pure fun _ _ _ m bl ac w hws _ hr => by
    have h1 := (hx.rep hr (by simp [ho, Op.operands, Call.operands])).eq_v
    have h2 := (hy.rep hr (by simp [ho, Op.operands, Call.operands])).eq_v
    refine ⟨_, ?_, .v⟩
    have : (if b < a then b else a) = min a b := by split <;> omega
    simp [execOp, ho, h1, h2, resolve, invoke, builtin, Builtin.min_, Builtin.min2]
    simpa using this

theorem str_beq (a b : List UInt8) : ((ByteArray.mk a.toArray).toList == (ByteArray.mk b.toArray).toList) = (a == b) := by rw [ByteArray.toList_mk, ByteArray.toList_mk]
def strLess (a b : List UInt8) : Bool := Op.bytesLess a b
theorem str_app (a b : List UInt8) : (⟨a.toArray⟩ : ByteArray) ++ ⟨b.toArray⟩ = ⟨(a ++ b).toArray⟩ := by
  apply ByteArray.ext
  simp
inductive Zs : List AV → List Value → Prop
  | nil : Zs [] []
  | v {x l vs} : Zs l vs → Zs (.v x :: l) (x :: vs)
  | s {c sz l vs} : Zs l vs → Zs (.sl c sz [] :: l) (.slice none 0 0 :: vs)
theorem Zs.reps {m bl} : ∀ {l vs}, Zs l vs → Reps m bl l vs
  | _, _, .nil => .nil
  | _, _, .v h => .cons .v h.reps
  | _, _, .s h => .cons .slnil h.reps
def ZeroT (P : Program) (t : TypeId) (Z : List AV) : Prop := ∃ zs, tZero P t = some zs ∧ Zs Z zs ∧ zs.all oneCell = true

theorem QEx.buildZ {t ps fs Z0 Z} (ho : o.op = .build t ps) (hT : P.underlying t = some (.struct fs)) (hz : ZeroT P t Z0)
    (hf : fs.toList.all (fun f => (tSz P f.type).isSome) = true) (h : FillOk e (fieldPl P fs) ps.toList Z0 Z) : QEx P o e [] (.agg Z) :=
  .pure fun _ _ _ m bl a w hws _ hr => by
    obtain ⟨zs, hz0, hzs, h1⟩ := hz
    obtain ⟨z, hz1, hz2⟩ := run_zero_of hz0 w
    obtain ⟨cells', k1, k2, k3⟩ := h.run (o := o) hr (fun p hp => by rw [ho]; simp only [Op.operands]; simp; exact ⟨p.1, by simpa using hp⟩) z.cells
      (by rw [hz2]; exact hzs.reps) (by rw [hz2]; simpa using h1)
    refine ⟨.agg cells', ?_, by have := Rep.agg k2 k3; simpa using this⟩
    have hm : (fs.mapM fun f => (do Pure.pure (f.offset, ← sizeOf f.type) : Sem (Nat × Nat))).run P w = .ok (fs.map fun f => (f.offset, (tSz P f.type).getD 0)) w := by
      rw [Array.mapM_eq_mapM_toList, Sem.run_map, run_fields w fs.toList (fun f hf' => List.all_eq_true.1 hf f hf')]
      simp only [Result.andThen_ok]
      congr 1
      exact Array.ext' (by rw [Array.toList_map])
    have hpl : (fun i => (fs.map fun f => (f.offset, (tSz P f.type).getD 0))[i]?) = fieldPl P fs := by
      funext i; simp [fieldPl]
    have k1' : Instr.fill (fun i => (fs.map fun f => (f.offset, (tSz P f.type).getD 0))[i]?) z.cells (ps.map fun (i, x) => (i, a.eval x)).toList = some cells' := by
      rw [hpl]; simpa using k1
    simp only [execOp, ho, Instr.build, Sem.run_bind, hz1, Result.andThen_ok, run_underlying_of hT, hm, k1', Sem.run_pure]

theorem QEx.nilC {y c} (ho : o.op = .nilCheck y) (hy : OpdOk e y (.cptr c)) : QEx P o e [] .undef :=
  .pure fun _ _ _ m bl ac w hws _ hr => by
    have h1 := hy.rep hr (by simp [ho, Op.operands])
    generalize hv : ac.eval y = v at h1
    cases h1 with
    | cptr => exact ⟨_, by simp [execOp, ho, hv]; rfl, .undef⟩
theorem QEx.idxA {t y z E n sz k i l x} (ho : o.op = .index t y z) (hT : P.underlying t = some (.array n E)) (hs : tSz P E = some sz) (ha : tAg P E = some false) (hy : OpdOk e y (.agg l))
    (hz : OpdOk e z ((.v (.int k i)))) (h : 0 ≤ i ∧ i < n) (hr : l[i.toNat * sz]? = some x) : QEx P o e [] x :=
  .pure fun _ _ _ m bl ac w hws _ hrd => by
    have r1 := hy.rep hrd (by simp [ho, Op.operands])
    have r2 := (hz.rep hrd (by simp [ho, Op.operands])).eq_v
    generalize hv : ac.eval y = v at r1
    cases r1 with
    | agg g1 g2 =>
      rename_i cs
      obtain ⟨v, hv1, hv2⟩ := g1.get _ x hr
      refine ⟨v, ?_, hv2⟩
      simp only [execOp, ho, hv, r2]
      simp [Instr.index, asIntOf, run_underlying_of hT, h.1, h.2, run_sizeOf_of hs, part, run_isAgg_of ha, hv1]

theorem QEx.buildA {t ps n E sz Z0 Z} (ho : o.op = .build t ps) (hT : P.underlying t = some (.array n E)) (hs : tSz P E = some sz) (hz : ZeroT P t Z0)
    (h : FillOk e (fun i => some (i * sz, sz)) ps.toList Z0 Z) : QEx P o e [] (.agg Z) :=
  .pure fun _ _ _ m bl a w hws _ hr => by
    obtain ⟨zs, hz0, hzs, h1⟩ := hz
    obtain ⟨z, hz1, hz2⟩ := run_zero_of hz0 w
    obtain ⟨cells', k1, k2, k3⟩ := h.run (o := o) hr (fun p hp => by rw [ho]; simp only [Op.operands]; simp; exact ⟨p.1, by simpa using hp⟩) z.cells
      (by rw [hz2]; exact hzs.reps) (by rw [hz2]; simpa using h1)
    refine ⟨.agg cells', ?_, by have := Rep.agg k2 k3; simpa using this⟩
    have k1' : Instr.fill (fun i => some (i * sz, sz)) z.cells (ps.map fun (i, x) => (i, a.eval x)).toList = some cells' := by simpa using k1
    simp only [execOp, ho, Instr.build, Sem.run_bind, hz1, Result.andThen_ok, run_underlying_of hT, run_sizeOf_of hs, k1', Sem.run_pure]
theorem str_extract (s : List UInt8) (a b : Nat) : (⟨s.toArray⟩ : ByteArray).extract a b = ⟨((s.drop a).take (b - a)).toArray⟩ := by
  apply ByteArray.ext
  simp [ByteArray.data_extract]

end
end Go.Rx
