/-
  Own slices appended to, cleared, made, told as strings; strings ranged over; functions as values; structs compared. Conditions: those named in each rule.
-/
import Derived.Test.YtdknhngjfoaphaaGreatRxI
set_option linter.all false
namespace Go.Rx
open Go.RowKit

/-- The state without the name id. -/
def dropQ (id : Nat) : Nat → Option Nat := fun i => if i = id then none else some i
def reE (q : Nat → Option Nat) (e : Env) : Env := e.map fun p => (p.1, p.2.re q)
theorem find_map {α β : Type} (g : α → β) (t : Nat) : ∀ (l : List (Nat × α)), find t (l.map fun p => (p.1, g p.2)) = (find t l).map g
  | [] => rfl
  | (k, x) :: r => by
    rw [List.map_cons, find_cons, find_cons]
    split
    · rfl
    · exact find_map g t r
theorem find_filter {α : Type} (q : Nat → Bool) (t : Nat) : ∀ (l : List (Nat × α)), find t (l.filter fun p => q p.1) = if q t then find t l else none
  | [] => by simp [find]
  | (k, x) :: r => by
    rw [List.filter_cons]
    by_cases hk : k = t
    · subst hk
      by_cases hq : q k = true
      · simp [hq, find_cons]
      · have := find_filter q k r
        simp only [hq] at this ⊢
        simpa using this
    · have ih := find_filter q t r
      split
      · rw [find_cons, find_cons, if_neg hk, if_neg hk]; exact ih
      · rw [find_cons, if_neg hk]; exact ih
theorem find_reE {q e t} : find t (reE q e) = (find t e).map (·.re q) := find_map (fun x => AV.re q x) t e
def reB (q : Nat → Option Nat) : ABlk → ABlk
  | .cells l => .cells (reL q l)
  | .iter s p => .iter s p
def dropH (id : Nat) (h : Hp) : Hp := (h.filter fun p => p.1 != id).map fun p => (p.1, reB (dropQ id) p.2)
theorem find_dropH {id h t} : find t (dropH id h) = if t = id then none else (find t h).map (reB (dropQ id)) := by
  unfold dropH
  rw [find_map (fun x => reB (dropQ id) x), find_filter (fun k => k != id)]
  by_cases ht : t = id
  · simp [ht]
  · simp [ht]

section
variable {P : Program} {o : Oper} {e : Env}

/-- What was appended to an own slice; whoever else had it, has it no more. -/
theorem AEx.appRow {L : LS} {t tz y z E sz by_ d id need} {l2 xs : List AV} (hd : o.dst = some d) (ho : o.op = .call { callee := .builtin .append, args := #[y, z], argTypes := #[t, tz] }) (ht : ElemT P t E sz by_)
    (hy : OpdOk L.e y (.rw id sz)) (hl : find id L.h = some (.cells (xs.flatMap AV.cells))) (hxs : ∀ x ∈ xs, x.cells.length = sz) (hbare : allBare (xs.flatMap AV.cells) = true) (hz : SrcOk P o L.e need sz tz z l2) (hneed : ∀ p ∈ need, find p.1 L.h = some (.cells p.2)) (hlen : (xs.length + l2.length) * by_ ≤ 140737488355328) (h63 : xs.length + l2.length ≤ 9223372036854775807) :
    AEx P o L (· = ⟨(d, .rw id sz) :: reE (dropQ id) L.e, L.s.map (reE (dropQ id)), (id, .cells (xs.flatMap AV.cells ++ l2.flatMap AV.cells)) :: dropH id L.h, fun i => L.f i ∧ i ≠ id⟩) := by
  intro N W0 m0 sa m bl a w S hdN next Q k
  have hR : Reads o L.e m bl a := fun t _ y hy => S.env t y hy
  have r1 := hy.rep hR (by simp [ho, Op.operands, Call.operands])
  obtain ⟨cs2, src, reps2, el2⟩ := hz _ _ _ m bl a w S.ws hneed hR
  obtain ⟨i, zv, hi1, hi2, hi3, hi4, hi5, hi6⟩ := ht.info
  have hq : ∀ x i', dropQ id x = some i' → x = i' ∧ x ≠ id := by
    intro x i' h
    unfold dropQ at h
    split at h
    · cases h
    · cases h; exact ⟨rfl, ‹_›⟩
  -- how it goes on: the name stands for nothing or for block nb
  have fin : ∀ (v : Value) (w' : World) (X : Bnd), (execOp a.eval o).run P w = .ok (.value v) w' → Below W0.heap.size W0 w' → Imm m w' →
      (∀ i b n, i ≠ id → bl i = some (.blk b n) → w'.heap[b]? = w.heap[b]?) → w.heap.size ≤ w'.heap.size →
      (∀ b n, X = .blk b n → W0.heap.size ≤ b ∧ b < w'.heap.size ∧ (∀ o, m b o = none) ∧ (∀ i, i ≠ id → ∀ n', bl i ≠ some (.blk b n'))) →
      ((X = .nil ∧ xs.flatMap AV.cells ++ l2.flatMap AV.cells = []) ∨ ∃ b n arr T pre rest, X = .blk b n ∧ w'.heap[b]? = some (.cells arr T (0, 0)) ∧ (arr.size, pre.length) = n ∧ arr.toList = pre ++ rest ∧
        Reps m (fun i => if i = id then some X else bl i) (xs.flatMap AV.cells ++ l2.flatMap AV.cells) pre ∧ ∀ c ∈ pre, oneCell c = true) →
      (∀ bl', bl' id = some X → Rep m bl' (.rw id sz) v) → o.wp P a w next Q := by
    intro v w' X hrun hbel himm hold hsz hX hblk hrep
    unfold Oper.wp
    rw [hrun, Oper.upon_value]
    have hre : ∀ {x v}, Rep m bl x v → Rep m (fun i => if i = id then some X else bl i) (x.re (dropQ id)) v := by
      intro x v h
      refine h.re ?_
      intro j j' hj b hb
      obtain ⟨rfl, h2⟩ := hq _ _ hj
      show (if _ then _ else _) = _
      rw [if_neg h2]; exact hb
    have hreL : ∀ {x v}, Reps m bl x v → Reps m (fun i => if i = id then some X else bl i) (reL (dropQ id) x) v := by
      intro x v h
      refine h.re ?_
      intro j j' hj b hb
      obtain ⟨rfl, h2⟩ := hq _ _ hj
      show (if _ then _ else _) = _
      rw [if_neg h2]; exact hb
    have hE : ∀ {e ts}, EnvRep m bl e ts → EnvRep m (fun i => if i = id then some X else bl i) (reE (dropQ id) e) ts := by
      intro e ts h t x hx
      rw [find_reE] at hx
      obtain ⟨y, h1, rfl⟩ := Option.map_eq_some_iff.1 hx
      exact hre (h t y h1)
    refine k _ _ w' m (fun i => if i = id then some X else bl i) rfl ⟨?_, ?_, hbel, ⟨himm, S.ws.le, S.ws.grow, ?_, ?_, ?_, ?_⟩, ?_, ?_, ?_⟩
    · simp [Act.put, hd, S.defers]
    · simp [Act.put, hd, S.size]
    · intro id' l' hf
      rw [find_cons] at hf
      split at hf
      · rename_i hk; subst hk; cases hf
        rcases hblk with ⟨h1, h2⟩ | ⟨b, n, arr, T, pre, rest, h1, h2, h3, h4, h5, h6⟩
        · exact .inl ⟨by simp [h1], h2⟩
        · exact .inr ⟨b, n, arr, T, pre, rest, by simp [h1], h2, h3, h4, h5, h6⟩
      · rename_i hk
        rw [find_dropH, if_neg (Ne.symm hk)] at hf
        obtain ⟨b0, h1, h2⟩ := Option.map_eq_some_iff.1 hf
        cases b0 with
        | iter => simp [reB] at h2
        | cells l0 =>
          simp only [reB, ABlk.cells.injEq] at h2; subst h2
          rcases S.ws.blk id' l0 h1 with ⟨g1, rfl⟩ | ⟨b, n, arr, T, pre, rest, g1, g2, g3, g4, g5, g6⟩
          · exact .inl ⟨by show (if _ then _ else _) = _; rw [if_neg (Ne.symm hk)]; exact g1, rfl⟩
          · exact .inr ⟨b, n, arr, T, pre, rest, by show (if _ then _ else _) = _; rw [if_neg (Ne.symm hk)]; exact g1, by rw [hold id' b n (Ne.symm hk) g1]; exact g2, g3, g4, hreL g5, g6⟩
    · intro id' x p hf
      rw [find_cons] at hf
      split at hf
      · cases hf
      · rename_i hk
        rw [find_dropH, if_neg (Ne.symm hk)] at hf
        obtain ⟨b0, h1, h2⟩ := Option.map_eq_some_iff.1 hf
        cases b0 with
        | cells => simp [reB] at h2
        | iter x' p' =>
          simp only [reB, ABlk.iter.injEq] at h2
          obtain ⟨rfl, rfl⟩ := h2
          obtain ⟨b, n, g1, g2⟩ := S.ws.it id' _ _ h1
          exact ⟨b, n, by show (if _ then _ else _) = _; rw [if_neg (Ne.symm hk)]; exact g1, by rw [hold id' b n (Ne.symm hk) g1]; exact g2⟩
    · intro id' b n g
      change (if _ then _ else _) = _ at g
      split at g
      · obtain ⟨g1, g2, g3, -⟩ := hX b n (Option.some.inj g); exact ⟨g1, g2, g3⟩
      · obtain ⟨g1, g2, g3⟩ := S.ws.own id' b n g
        exact ⟨g1, Nat.lt_of_lt_of_le g2 hsz, g3⟩
    · intro i1 i2 b n n' g g'
      change (if _ then _ else _) = _ at g
      change (if _ then _ else _) = _ at g'
      split at g
      · split at g'
        · omega
        · exact absurd g' ((hX b n (Option.some.inj g)).2.2.2 i2 ‹_› n')
      · split at g'
        · exact absurd g ((hX b n' (Option.some.inj g')).2.2.2 i1 ‹_› n)
        · exact S.ws.inj i1 i2 b n n' g g'
    · rw [hd]
      exact EnvRep.put (hE S.env) (hrep _ (by simp)) (by rw [S.size]; exact hdN d hd)
    · obtain ⟨k1, k2⟩ := Stk_iff.1 S.stk
      refine Stk_iff.2 ⟨by rw [List.length_map]; exact k1, fun i e' t' he ht => ?_⟩
      rw [List.getElem?_map] at he
      obtain ⟨e0, h1, rfl⟩ := Option.map_eq_some_iff.1 he
      exact hE (k2 i e0 t' h1 ht)
    · rintro d' ⟨h1, h2⟩
      show (if _ then _ else _) = _
      rw [if_neg h2]; exact S.free d' h1
  have hfl := flat_len hxs
  have grow : ∀ (len : Nat), len = xs.length → ∀ (ad : Option Addr) (cap : Nat) (cs : List Value), a.eval y = .slice ad len cap → cs.length = len * sz → (Builtin.firstCells i.size len (.slice ad len cap)).run P w.drew = .ok cs.toArray w.drew →
      Reps m noNames (xs.flatMap AV.cells) cs → (∀ c ∈ cs, oneCell c = true) → cap < len + l2.length → o.wp P a w next Q := by
    intro len hlx ad cap cs hv hcl hold hreps hone hcap
    have hrun := run_append_grow_src (P := P) w t tz o.type E i zv ht.under hi1 hi2 ad len cap cs hold (a.eval z) l2.length cs2 (by rw [hi3]; exact src) hcap (by subst hlx; omega)
      (by rw [hi4]; exact growslice_fits (by omega) (by subst hlx; exact hlen))
    generalize hcap2 : grownCap w (len + l2.length) cap E = cap' at hrun
    have hge : len + l2.length ≤ cap' := by rw [← hcap2]; exact grownCap_ge w _ _ E
    have hzs : (Builtin.zeroCells zv.cells (cap' - (len + l2.length))).size = (cap' - (len + l2.length)) * sz := by rw [size_zeroCells, hi5]
    have hsz : ((cs ++ cs2).toArray ++ Builtin.zeroCells zv.cells (cap' - (len + l2.length))).size = cap' * sz := by
      rw [Array.size_append, hzs, List.size_toArray, List.length_append, hcl, src.newsLen, ← Nat.add_mul, ← Nat.add_mul]; congr 1; omega
    refine fin _ _ (.blk w.heap.size (cap' * sz, (cs ++ cs2).length)) (run_append2 ho (by rw [hv]; exact hrun)) ((S.below.drew).alloc S.below.size _) ?_ ?_ ?_ ?_ (.inr ⟨w.heap.size, (cap' * sz, (cs ++ cs2).length), _, E, cs ++ cs2, _, rfl, by show (w.heap.push _)[w.heap.size]? = _; rw [Array.getElem?_push, if_pos rfl], by rw [hsz], by rw [Array.toList_append], ?_, ?_⟩) ?_
    · exact S.ws.imm.below (((Below.refl _ _).drew).alloc (Nat.le_refl _) _)
    · intro j b n _ hb
      show (w.heap.push _)[b]? = _
      rw [Array.getElem?_push, if_neg (by have := (S.ws.own j b n hb).2.1; omega)]
    · show w.heap.size ≤ (w.heap.push _).size
      rw [Array.size_push]; omega
    · intro b n e
      cases e
      refine ⟨S.below.size, by show _ < (w.heap.push _).size; rw [Array.size_push]; omega, fun o' => ?_, fun j _ n' hb => ?_⟩
      · cases hm : m w.heap.size o' with
        | none => rfl
        | some v => have := S.ws.imm.lt hm; omega
      · have := (S.ws.own j _ n' hb).2.1; omega
    · refine Reps.append ?_ (reps2.widen (by simp [noNames]))
      exact hreps.widen (by simp [noNames])
    · intro c hc
      rcases List.mem_append.1 hc with h | h
      · exact hone c h
      · exact src.one c h
    · intro bl' hbl'
      exact .rw hbl' (by rw [List.length_append, hcl, src.newsLen, Nat.add_mul]) hge (Nat.le_refl _)
  generalize hv : a.eval y = v at r1
  cases r1 with
  | rwnil hb =>
    rename_i ad
    have hx0 : xs = [] := by
      rcases S.ws.blk id _ hl with ⟨-, g⟩ | ⟨b, n, arr, T, pre, rest, g1, -⟩
      · rw [show (xs.flatMap AV.cells) = [] from g] at hfl
        rcases Nat.mul_eq_zero.1 (show xs.length * sz = 0 by rw [← hfl]; rfl) with h | h
        · exact List.eq_nil_of_length_eq_zero h
        · have := ht.pos; omega
      · rw [g1] at hb; cases hb
    subst hx0
    by_cases h0 : l2.length = 0
    · have hl2 : l2 = [] := List.eq_nil_of_length_eq_zero h0
      subst hl2
      have : cs2 = [] := List.eq_nil_of_length_eq_zero (by have := src.newsLen; simpa using this)
      subst this
      exact fin (.slice ad 0 0) w .nil (run_append2 ho (by rw [hv]; exact run_append_zero ht src ad (Nat.le_refl _))) S.below S.ws.imm (fun _ _ _ _ _ => rfl) (Nat.le_refl _) (by intro b n h; cases h) (.inl ⟨rfl, rfl⟩) (fun _ h => .rwnil h)
    · refine grow 0 rfl ad 0 [] hv (by simp) ?_ (by simp; exact .nil) (by simp) (by omega)
      cases ad with
      | none => exact run_firstCells_none (P := P) w.drew _ _ _ _
      | some a1 => exact run_firstCells_some (P := P) w.drew i.size 0 a1 _ _ [] (by simp) (by simp)
  | rw hb g1 g2 g3 =>
    rename_i b n cap len
    obtain ⟨arr, T, pre, rest, q1, q2, q3, q4, q5⟩ := S.ws.at_ hl hb
    have hpl := q4.length
    have hnone := (S.ws.own id b n hb)
    have hn1 : n.1 = arr.size := by rw [← q2]
    have hn2 : n.2 = pre.length := by rw [← q2]
    have hlx : len = xs.length := Nat.eq_of_mul_eq_mul_right ht.pos (by rw [g1, hn2, ← hpl, hfl])
    have hpre : pre.length = len * sz := by rw [g1, hn2]
    have hps : arr.size = pre.length + rest.length := by rw [← Array.length_toList, q3, List.length_append]
    by_cases hroom : len + l2.length ≤ cap
    · -- in place
      have hnl := src.newsLen
      have hcm : (len + l2.length) * sz ≤ cap * sz := Nat.mul_le_mul_right _ hroom
      rw [Nat.add_mul] at hcm
      have hfit2 : len * sz + cs2.length ≤ arr.size := by omega
      have hst := run_storeCells_at P b (len * sz) T cs2 0 arr w q1 (by simpa using hfit2) src.one
      simp only [Nat.add_zero] at hst
      have hrun : (Builtin.append_ #[t, tz] o.type #[.slice (some ⟨b, 0, none⟩) len cap, a.eval z]).run P w = .ok (.slice (some ⟨b, 0, none⟩) (len + l2.length) cap)
          (w.setRow b (arr.toList.take (len * sz) ++ cs2 ++ arr.toList.drop (len * sz + cs2.length)).toArray) := by
        rcases src.kind with ⟨e', hk⟩ | hk <;> simp [Builtin.append_, run_underlying_of ht.under, run_underlying_of hk, run_sizeOf_of ht.sz, src.len, src.cells, hroom, addr_add, hst]
      generalize hna : (arr.toList.take (len * sz) ++ cs2 ++ arr.toList.drop (len * sz + cs2.length)).toArray = na at hrun
      have hheap := setRow_heap w b arr na T (0, 0) q1
      have hother : ∀ b', b' ≠ b → (w.setRow b na).heap[b']? = w.heap[b']? := fun b' h => setRow_other w b b' na h
      have hsize : (w.setRow b na).heap.size = w.heap.size := by simp [World.setRow]
      have e1 : arr.toList.take (len * sz) = pre := by rw [q3, ← hpre, List.take_left]
      have hnas : na.size = arr.size := by rw [← hna]; simp; omega
      refine fin _ _ (.blk b (arr.size, (pre ++ cs2).length)) (run_append2 ho (by rw [hv]; exact hrun)) ?_ ?_ ?_ (by rw [hsize]; exact Nat.le_refl _) ?_ (.inr ⟨b, (arr.size, (pre ++ cs2).length), na, T, pre ++ cs2, arr.toList.drop (len * sz + cs2.length), rfl, hheap, by rw [hnas], ?_, ?_, ?_⟩) ?_
      · exact S.below.trans ⟨rfl, rfl, rfl, by rw [hsize]; exact Nat.le_refl _, fun k' hk' => hother k' (by have := hnone.1; omega)⟩
      · intro b' o' v e'
        have hne : b' ≠ b := by rintro rfl; rw [hnone.2.2 o'] at e'; cases e'
        have := S.ws.imm b' o' v e'
        simp only [World.cell?, hother b' hne] at this ⊢
        exact this
      · intro j b' n' hj hb'
        exact hother b' (by rintro rfl; exact hj (S.ws.inj j id _ n' n hb' hb))
      · intro b' n' e'
        cases e'
        exact ⟨hnone.1, by rw [hsize]; exact hnone.2.1, hnone.2.2, fun j hj n' h => hj (S.ws.inj j id b n' n h hb)⟩
      · rw [← hna, e1]
      · have := q4.bare (bl' := fun i => if i = id then some (Bnd.blk b (arr.size, (pre ++ cs2).length)) else bl i)
        rw [bareL, bareL_of hbare] at this
        exact this.append (reps2.widen (by simp [noNames]))
      · intro c hc
        rcases List.mem_append.1 hc with h | h
        · exact q5 c h
        · exact src.one c h
      · intro bl' hbl'
        exact .rw hbl' (by show _ = (pre ++ cs2).length; rw [List.length_append, hpre, hnl, Nat.add_mul]) hroom (by show _ ≤ arr.size; rw [← hn1]; exact g3)
    · refine grow len hlx (some ⟨b, 0, none⟩) cap pre hv hpre ?_ ?_ q5 (by omega)
      · refine run_firstCells_some (P := P) w.drew i.size len _ _ _ _ (by rw [hi3]; exact hpre) (fun j v e => ?_)
        rw [addr_add, Nat.zero_add, World.cell?_drew, cell_of_blk q1]
        exact pre_get q3 e
      · have := q4.bare (bl' := noNames)
        rwa [bareL, bareL_of hbare] at this
end
end Go.Rx
