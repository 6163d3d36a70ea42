/-
  Structs and slices made, slices cut, slices appended to. Conditions: those named in each rule.
-/
import Derived.Test.YtblkmlpjhpgkjaaCxE
set_option linter.all false
namespace Go.Cx
open Go.RowKit

/-- What lies in a fresh block: the cells of a type's zero. -/
def tZero (P : Program) (t : TypeId) : Option (List Value) := ((P.info? t).bind (·.zero)).map fun z => z.cells.toList

theorem run_zero_of {P : Program} {t : TypeId} {zs : List Value} (h : tZero P t = some zs) (w : World) : ∃ z : Value, (zeroValue t).run P w = .ok z w ∧ z.cells.toList = zs := by
  unfold tZero at h
  cases hu : P.info? t with
  | none => simp [hu] at h
  | some d =>
    cases hz : d.zero with
    | none => simp [hu, hz] at h
    | some z => simp [hu, hz] at h; exact ⟨z, by simp [zeroValue, typeInfo, hu, hz], by simpa using h⟩

/-- A zero cell as an abstract value. -/
def zeroAV : Value → AV
  | .slice none 0 0 => .sl none 0 []
  | x => .v x

theorem zeroAV_rep {m bl hh} (v : Value) : Rep m bl hh (zeroAV v) v := by
  unfold zeroAV; split
  · exact .slnil
  · exact .v
theorem zeroAV_reps {m bl hh} : ∀ (vs : List Value), Reps m bl hh (vs.map zeroAV) vs
  | [] => .nil
  | v :: vs => .cons (zeroAV_rep v) (zeroAV_reps vs)

theorem foldl_set (off : Nat) : ∀ (vs : List Value) (k : Nat) (arr : Array Value), off + k + vs.length ≤ arr.size →
    ((vs.zipIdx k).foldl (fun (cs : Array Value) (c : Value × Nat) => cs.setIfInBounds (off + c.2) c.1) arr).toList = arr.toList.take (off + k) ++ vs ++ arr.toList.drop (off + k + vs.length)
  | [], k, arr, h => by simp
  | v :: vs, k, arr, h => by
    simp only [List.length_cons] at h
    rw [List.zipIdx_cons, List.foldl_cons, foldl_set off vs (k + 1) _ (by simp; omega)]
    simp only [Array.toList_setIfInBounds, List.length_cons]
    have hk : off + k < arr.toList.length := by simp; omega
    rw [show off + (k + 1) = off + k + 1 from by omega, List.take_set, List.drop_set]
    rw [if_pos (by omega)]
    rw [List.take_succ_eq_append_getElem hk, List.set_append_right _ _ (by simp; omega)]
    simp only [List.length_take, Nat.min_eq_left (Nat.le_of_lt hk), Nat.sub_self, List.set_cons_zero]
    simp [List.append_assoc]
    congr 1; omega

/-- Parts laid into the cells Z: at place i the operand's value. -/
inductive FillOk (P : Program) (e : Env) (pl : Nat → Option (Nat × Nat)) : List (Nat × Operand) → List AV → List AV → Prop
  | nil {Z} : FillOk P e pl [] Z Z
  | cons {i y x off sz rest Z Z'} : pl i = some (off, sz) → OpdOk P e 0 y x → x.solid = true → x.cells.length = sz → off + sz ≤ Z.length →
      FillOk P e pl rest (Z.take off ++ x.cells ++ Z.drop (off + sz)) Z' → FillOk P e pl ((i, y) :: rest) Z Z'

theorem FillOk.run {P e pl ps Z Z'} (h : FillOk P e pl ps Z Z') {o : Oper} {m bl hh a} (hr : Reads o e m bl hh a) (hx : ∀ p ∈ ps, p.2 ∈ o.op.operands) :
    ∀ (cells : Array Value), Reps m bl hh Z cells.toList → (∀ c ∈ cells.toList, oneCell c = true) →
      ∃ cells', Instr.fill pl cells (ps.map fun (i, x) => (i, a.eval x)) = some cells' ∧ Reps m bl hh Z' cells'.toList ∧ (∀ c ∈ cells'.toList, oneCell c = true) := by
  induction h with
  | nil => exact fun cells h1 h2 => ⟨cells, rfl, h1, h2⟩
  | @cons i y x off sz rest Z Z' hp hy hs hl hfit _ ih =>
    intro cells h1 h2
    have hrep := hy.rep hr (hx (i, y) (by simp))
    obtain ⟨g1, g2⟩ := hrep.cells hs
    have hsz : (a.eval y).cells.size = sz := by have := g1.length; simp at this; omega
    have hZ : cells.size = Z.length := by have := h1.length; simp at this; omega
    have e1 : ((a.eval y).cells.zipIdx.foldl (fun cs (c, j) => cs.setIfInBounds (off + j) c) cells).toList = cells.toList.take off ++ (a.eval y).cells.toList ++ cells.toList.drop (off + sz) := by
      rw [← Array.foldl_toList, Array.toList_zipIdx]
      have := foldl_set off (a.eval y).cells.toList 0 cells (by simp; omega)
      simp only [Nat.add_zero, Array.length_toList, hsz] at this
      exact this
    obtain ⟨cells', k1, k2, k3⟩ := ih (fun p hp => hx p (by simp [hp])) ((a.eval y).cells.zipIdx.foldl (fun cs (c, j) => cs.setIfInBounds (off + j) c) cells)
      (by rw [e1]; exact ((h1.take off).append g1).append (h1.drop _))
      (by
        rw [e1]; intro c hc
        rcases List.mem_append.1 hc with hc | hc
        · rcases List.mem_append.1 hc with hc | hc
          · exact h2 c (List.mem_of_mem_take hc)
          · exact g2 c hc
        · exact h2 c (List.mem_of_mem_drop hc))
    refine ⟨cells', ?_, k2, k3⟩
    simp only [List.map_cons, Instr.fill, hp]
    rw [if_neg (by simp; omega)]
    exact k1

/-- The places of a struct's fields. -/
def fieldPl (P : Program) (fs : Array Field) (i : Nat) : Option (Nat × Nat) := (fs[i]?).map fun f => (f.offset, (tSz P f.type).getD 0)

theorem run_fields {P : Program} (w : World) : ∀ (l : List Field), (∀ f ∈ l, (tSz P f.type).isSome = true) →
    (l.mapM fun f => (do Pure.pure (f.offset, ← sizeOf f.type) : Sem (Nat × Nat))).run P w = .ok (l.map fun f => (f.offset, (tSz P f.type).getD 0)) w
  | [], _ => by simp
  | f :: l, h => by
    obtain ⟨n, hn⟩ := Option.isSome_iff_exists.1 (h f (by simp))
    have ih := run_fields w l fun g hg => h g (by simp [hg])
    have e1 : (do Pure.pure (f.offset, ← sizeOf f.type) : Sem (Nat × Nat)).run P w = .ok (f.offset, n) w := by simp [run_sizeOf_of hn]
    rw [List.mapM_cons, Sem.run_bind, e1]
    simp only [Result.andThen_ok]
    rw [Sem.run_bind, ih]
    simp [hn]

section
variable {P : Program} {o : Oper} {e : Env}

theorem QEx.build {t ps fs zs Z} (ho : o.op = .build t ps) (hT : P.underlying t = some (.struct fs)) (hz : tZero P t = some zs) (h1 : zs.all oneCell = true)
    (hf : fs.toList.all (fun f => (tSz P f.type).isSome) = true) (h : FillOk P e (fieldPl P fs) ps.toList (zs.map zeroAV) Z) : QEx P o e [] false (.agg Z) :=
  .pure fun _ _ _ m bl hh a w hws _ hr => by
    obtain ⟨z, hz1, hz2⟩ := run_zero_of hz w
    obtain ⟨cells', k1, k2, k3⟩ := h.run (o := o) hr (fun p hp => by rw [ho]; simp only [Op.operands]; simp; exact ⟨p.1, by simpa using hp⟩) z.cells
      (by rw [hz2]; exact zeroAV_reps zs) (by rw [hz2]; simpa using h1)
    refine ⟨.agg cells', ?_, by have := Rep.agg k2 k3; simpa using this⟩
    have hm : (fs.mapM fun f => (do Pure.pure (f.offset, ← sizeOf f.type) : Sem (Nat × Nat))).run P w = .ok (fs.map fun f => (f.offset, (tSz P f.type).getD 0)) w := by
      rw [Array.mapM_eq_mapM_toList, Sem.run_map, run_fields w fs.toList (fun f hf' => List.all_eq_true.1 hf f hf')]
      simp only [Result.andThen_ok]
      congr 1
      exact Array.ext' (by rw [Array.toList_map])
    have hpl : (fun i => (fs.map fun f => (f.offset, (tSz P f.type).getD 0))[i]?) = fieldPl P fs := by
      funext i; simp [fieldPl]
    have k1' : Instr.fill (fun i => (fs.map fun f => (f.offset, (tSz P f.type).getD 0))[i]?) z.cells (ps.map fun (i, x) => (i, a.eval x)).toList = some cells' := by
      rw [hpl]; simpa using k1
    simp only [execOp, ho, Instr.build, Sem.run_bind, hz1, Result.andThen_ok, run_underlying_of hT, hm, k1', Sem.run_pure]


end

/-- The immutable memory with a block's first cells. -/
def addBlk (m : Mem) (b : Nat) (cs : List Value) : Mem := fun b' o => if b' = b then cs[o]? else m b' o

theorem WSim.newBlk {B m0 h m bl hh w w'} {arr : Array Value} {T : TypeId} {fr : Nat × Nat} (s : WSim B m0 h m bl hh w) (hB : B ≤ w.heap.size) (hw : w'.heap = w.heap.push (.cells arr T fr)) {cs : List Value}
    (hc : ∀ (j : Nat) (v : Value), cs[j]? = some v → arr[j]? = some v) : WSim B m0 h (addBlk m w.heap.size cs) bl hh w' ∧ Mem.le m (addBlk m w.heap.size cs) := by
  have hne : ∀ b o v, m b o = some v → b ≠ w.heap.size := fun b o v e he => by have := s.imm.lt e; omega
  have hle : Mem.le m (addBlk m w.heap.size cs) := by
    intro b o v e
    simp only [addBlk]; rw [if_neg (hne b o v e)]; exact e
  have hold : ∀ b, b < w.heap.size → w'.heap[b]? = w.heap[b]? := by
    intro b hb; rw [hw, Array.getElem?_push, if_neg (by omega)]
  have hnew : w'.heap[w.heap.size]? = some (.cells arr T fr) := by rw [hw, Array.getElem?_push, if_pos rfl]
  refine ⟨⟨?_, s.le.trans hle, ?_, ?_, ?_, ?_, s.inj, ?_⟩, hle⟩
  · intro b o v e
    simp only [addBlk] at e
    split at e
    · rename_i hb; subst hb
      rw [cell_of_blk hnew]; exact hc o v e
    · have := s.imm b o v e
      have hb := s.imm.lt e
      simp only [World.cell?, hold b hb] at this ⊢
      exact this
  · intro b o v e
    simp only [addBlk] at e
    split at e
    · rename_i hb; exact .inr (by omega)
    · exact s.grow b o v e
  · intro id l hf
    obtain ⟨b, arr', T', g1, g2, g3, g4⟩ := s.blk id l hf
    exact ⟨b, arr', T', g1, by rw [hold b (s.own id b g1).2.1]; exact g2, g3.mono hle, g4⟩
  · intro id x p hf
    obtain ⟨b, g1, g2⟩ := s.it id x p hf
    exact ⟨b, g1, by rw [hold b (s.own id b g1).2.1]; exact g2⟩
  · intro id b g
    obtain ⟨g1, g2, g3⟩ := s.own id b g
    refine ⟨g1, by rw [hw, Array.size_push]; omega, fun o => ?_⟩
    simp only [addBlk]; rw [if_neg (by omega)]; exact g3 o
  · intro k b f t hs
    obtain ⟨g1, ⟨arr', T', g2, g2'⟩, g3, g4, g5⟩ := s.spare k b f t hs
    have hb : b < w.heap.size := by
      rcases Nat.lt_or_ge b w.heap.size with h | h
      · exact h
      · simp [Array.getElem?_eq_none h] at g2
    refine ⟨g1, ⟨arr', T', by rw [hold b hb]; exact g2, g2'⟩, fun o ho => ?_, g4, g5⟩
    simp only [addBlk]; rw [if_neg (by omega)]; exact g3 o ho

theorem addBlk_at (m : Mem) (b : Nat) (cs : List Value) (o : Nat) : addBlk m b cs b o = cs[o]? := by simp [addBlk]

/-- The elements of a literal, from place i on. -/
inductive ElemsOk (P : Program) (e : Env) (sz : Nat) : Nat → List (Nat × Operand) → List AV → Prop
  | nil {i} : ElemsOk P e sz i [] []
  | cons {i y x rest l} : OpdOk P e 0 y x → x.solid = true → x.cells.length = sz → x.isBare = true → ElemsOk P e sz (i + 1) rest l → ElemsOk P e sz i ((i, y) :: rest) (x :: l)

theorem ElemsOk.len {P e sz i ps l} (h : ElemsOk P e sz i ps l) : ∀ x ∈ l, x.cells.length = sz := by
  induction h with
  | nil => simp
  | cons _ _ hl _ _ ih =>
    intro x hx
    rcases List.mem_cons.1 hx with rfl | hx
    · exact hl
    · exact ih x hx

theorem ElemsOk.bare {P e sz i ps l} (h : ElemsOk P e sz i ps l) : allBare (l.flatMap AV.cells) = true := by
  induction h with
  | nil => rfl
  | @cons _ _ x _ _ _ hs _ hb _ ih =>
    rw [List.flatMap_cons]
    refine allBare_append ?_ ih
    cases x <;> simp_all [AV.cells, AV.isBare, allBare]

theorem ElemsOk.fill {P e sz i ps l} (h : ElemsOk P e sz i ps l) : ∀ Z : List AV, (i + l.length) * sz ≤ Z.length →
    FillOk P e (fun i => some (i * sz, sz)) ps Z (Z.take (i * sz) ++ l.flatMap AV.cells ++ Z.drop ((i + l.length) * sz)) := by
  induction h with
  | nil => intro Z hZ; simp; exact .nil
  | @cons i y x rest l hy hs hl _ _ ih =>
    intro Z hZ
    simp only [List.length_cons] at hZ
    have e0 : (i + (l.length + 1)) * sz = i * sz + sz + l.length * sz := by rw [Nat.add_mul, Nat.add_mul]; omega
    have e1 : (i + 1) * sz = i * sz + sz := by rw [Nat.add_mul]; omega
    rw [e0] at hZ
    refine .cons rfl hy hs hl (by omega) ?_
    have hlenZ : (Z.take (i * sz) ++ x.cells ++ Z.drop (i * sz + sz)).length = Z.length := by simp [hl]; omega
    have e2 : (i + 1 + l.length) * sz = i * sz + sz + l.length * sz := by rw [Nat.add_mul, e1]
    have := ih (Z.take (i * sz) ++ x.cells ++ Z.drop (i * sz + sz)) (by rw [hlenZ, e2]; exact hZ)
    have hA : (Z.take (i * sz) ++ x.cells).length = (i + 1) * sz := by simp [hl, e1]; omega
    have t1 : (Z.take (i * sz) ++ x.cells ++ Z.drop (i * sz + sz)).take ((i + 1) * sz) = Z.take (i * sz) ++ x.cells := List.take_left' hA
    have t2 : (Z.take (i * sz) ++ x.cells ++ Z.drop (i * sz + sz)).drop ((i + 1 + l.length) * sz) = Z.drop ((i + (l.length + 1)) * sz) := by
      have : (i + 1 + l.length) * sz = (i + 1) * sz + l.length * sz := Nat.add_mul _ _ _
      rw [this, ← List.drop_drop, List.drop_left' hA, List.drop_drop, e0]
    rw [t1, t2] at this
    simpa [List.append_assoc, List.flatMap_cons, Nat.add_assoc, Nat.add_comm 1] using this

/-- What is to be known of a slice's element type. -/
structure ElemT (P : Program) (t E sz by_ : Nat) : Prop where
  under : P.underlying t = some (.slice E)
  info : ∃ i z, P.info? E = some i ∧ i.zero = some z ∧ i.size = sz ∧ i.bytes = by_ ∧ z.cells.size = sz ∧ z.cells.toList.all oneCell = true
  pos : 0 < sz

theorem ElemT.sz {P t E sz by_} (h : ElemT P t E sz by_) : tSz P E = some sz := by
  obtain ⟨i, z, h1, _, h2, _⟩ := h.info
  simp [tSz, h1, h2]

section
variable {P : Program} {o : Oper} {e : Env}

end
def rangeFill (zero : Array Value) (k : Nat) : Array Value := (Array.range k).map (zero[· % zero.size]!)
section
variable {P : Program} {o : Oper} {e : Env}

theorem QEx.buildSlice {t E sz by_ n ps l} {tk : Option Tok} (ho : o.op = .buildSlice t n ps) (ht : ElemT P t E sz by_) (h : ElemsOk P e sz 0 ps.toList l) (hn : l.length = n) (hlim : n * sz ≤ 2 ^ 24) :
    QEx P o e [] false (.sl tk sz l) := by
  intro B m0 hp m bl hh a w hws hB _ hr _ next Q k
  obtain ⟨i, z, hi1, hi2, hi3, hi4, hi5, hi6⟩ := ht.info
  have hZ : ∃ zs : Array Value, zs.size = n * sz ∧ (∀ c ∈ zs.toList, oneCell c = true) ∧ zs = rangeFill (if n * sz = 0 then #[] else z.cells) (n * sz) := by
    refine ⟨_, by simp [rangeFill], ?_, rfl⟩
    intro c hc
    simp only [rangeFill, Array.toList_map, Array.toList_range, List.mem_map, List.mem_range] at hc
    obtain ⟨j, hj, rfl⟩ := hc
    have hne : ¬ n * sz = 0 := by omega
    simp only [hne, if_false]
    have hlt : j % z.cells.size < z.cells.size := Nat.mod_lt _ (by rw [hi5]; exact ht.pos)
    rw [getElem!_pos z.cells _ hlt]
    exact List.all_eq_true.1 hi6 _ (by simp)
  obtain ⟨zs, hz1, hz2, hz3⟩ := hZ
  have hfill := h.fill (List.replicate (n * sz) AV.undef) (by simp [hn])
  obtain ⟨cells', k1, k2, k3⟩ := hfill.run (o := o) hr (fun p hp => by rw [ho]; simp only [Op.operands]; simp; exact ⟨p.1, by simpa using hp⟩) zs
    (by
      have : ∀ (vs : List Value), Reps m bl hh (List.replicate vs.length AV.undef) vs := by
        intro vs; induction vs with
        | nil => exact .nil
        | cons v vs ih => exact .cons .undef ih
      have := this zs.toList
      rwa [Array.length_toList, hz1] at this) hz2
  simp only [Nat.zero_mul, Nat.zero_add, List.take_zero, List.nil_append, hn] at k2
  rw [List.drop_of_length_le (by simp), List.append_nil] at k2
  obtain ⟨hs, hle⟩ := hws.newBlk (w' := w.alloc (.cells cells' E)) (arr := cells') (T := E) (fr := (0, 0)) hB rfl (cs := cells'.toList) (fun j v e => by simpa using e)
  have hrun : (execOp a.eval o).run P w = .ok (.value (.slice (some ⟨w.heap.size, 0, none⟩) n n)) (w.alloc (.cells cells' E)) := by
    have hlim' : ¬ (2 ^ 24 < n * sz) := by omega
    have k1' : Instr.fill (fun i => some (i * sz, sz)) zs (ps.map fun (i, x) => (i, a.eval x)).toList = some cells' := by simpa using k1
    subst hz3
    unfold rangeFill at k1'
    by_cases h0 : n * sz = 0
    · simp only [h0, if_true] at k1'
      simp at k1'
      simp only [execOp, ho, Instr.buildSlice, Sem.run_bind, run_underlying_of ht.under, Result.andThen_ok, run_sizeOf_of ht.sz, h0]
      simp [k1', newRow]
    · simp only [h0, if_false] at k1'
      simp at k1'
      simp only [execOp, ho, Instr.buildSlice, Sem.run_bind, run_underlying_of ht.under, Result.andThen_ok, run_sizeOf_of ht.sz]
      simp [hlim', h0, zeroValue, typeInfo, hi1, hi2, k1', newRow]
  unfold Oper.wp
  rw [hrun, Oper.upon_value]
  subst hn
  refine k _ _ (addBlk m w.heap.size cells'.toList) hh hle ((Below.refl _ _).alloc (Nat.le_refl _) _) hs (fun _ _ e => e) (fun _ _ => rfl) ?_
  refine .sl (cs := cells'.toList) h.len ?_ k3 (fun _ => rfl) (fun j v e => ?_) (Nat.le_refl _) (fun _ _ => .inl rfl)
  · have := (k2.bare (bl' := noNames) (hh' := noSpare)).mono hle
    rwa [bareL, bareL_of_allBare h.bare] at this
  · simp only [Nat.zero_add]; rw [addBlk_at]; exact e

end
end Go.Cx
