/-
  The call's own blocks: made, written, read, cut; ghosts' steps: names go and are renamed, a block is written no more. Conditions: those named in each rule.
-/
import Derived.Test.YtdknhngjfoaphaaGreatRxE
set_option linter.all false
namespace Go.Rx
open Go.RowKit

theorem LEx.ofA {P : Program} {ops : Array Oper} {N : Nat} {o : Oper} {c : Loc} (hg : o.guard = none) (hd : ∀ d, o.dst = some d → d < N)
    (H : ∀ (e2 : Env) (s : List Env) (h : Hp) (f f' : Nat → Prop), (∀ p ∈ c.re, find p.1 e2 = some p.2) → (∀ p ∈ c.rh, find p.1 h = some p.2) → (∀ d ∈ c.nm, f d) → (∀ y, f' y → f y ∧ y ∉ c.nm) →
      AEx P o ⟨e2, s, h, f⟩ (· = ⟨c.we ++ e2, s, c.wh ++ h, f'⟩)) : LEx P ops N o c := by
  intro e2 s h f f' hre hrh hnm hf' W0 m0 sa m bl a w S next Q k
  rw [if_pos (by simp [Region.wanted, hg])]
  exact H e2 s h f f' hre hrh hnm hf' N W0 m0 sa m bl a w S hd next Q fun L' a' w' m' bl' hL S' => k _ _ _ _ (hL ▸ S')

def updN (bl : Names) (d b : Nat) (n : Nat × Nat) : Names := fun id => if id = d then some (.blk b n) else bl id

theorem OwnAt.mono {m m' bl w id l} (hm : Mem.le m m') (h : OwnAt m bl w id l) : OwnAt m' bl w id l :=
  let ⟨b, n, arr, T, pre, rest, g1, g2, g3, g4, g5, g6⟩ := h
  ⟨b, n, arr, T, pre, rest, g1, g2, g3, g4, g5.mono hm, g6⟩

theorem WSim.newOwn {B m0 h m bl w w' d} {arr : Array Value} {T : TypeId} {Z : List AV} {pre rest : List Value} (s : WSim B m0 h m bl w) (hB : B ≤ w.heap.size) (hfree : bl d = none)
    (hw : w'.heap = w.heap.push (.cells arr T (0, 0))) (hp : arr.toList = pre ++ rest) (hZ : Reps m bl Z pre) (h1 : ∀ c ∈ pre, oneCell c = true) :
    WSim B m0 ((d, .cells Z) :: h) m (updN bl d w.heap.size (arr.size, pre.length)) w' ∧ (∀ id b, bl id = some b → updN bl d w.heap.size (arr.size, pre.length) id = some b) := by
  have hext : ∀ id b, bl id = some b → updN bl d w.heap.size (arr.size, pre.length) id = some b := by
    intro id b e
    unfold updN; rw [if_neg]; exact e
    intro he; subst he; rw [hfree] at e; cases e
  have hold : ∀ b, b < w.heap.size → w'.heap[b]? = w.heap[b]? := by
    intro b hb; rw [hw, Array.getElem?_push, if_neg (by omega)]
  have hnew : w'.heap[w.heap.size]? = some (.cells arr T (0, 0)) := by rw [hw, Array.getElem?_push, if_pos rfl]
  refine ⟨⟨?_, s.le, s.grow, ?_, ?_, ?_, ?_⟩, hext⟩
  · intro b o v e
    have := s.imm b o v e
    simp only [World.cell?, hold b (s.imm.lt e)] at this ⊢
    exact this
  · intro id l hf
    rw [find_cons] at hf
    split at hf
    · rename_i hd; subst hd
      simp at hf; subst hf
      exact .inr ⟨w.heap.size, (arr.size, pre.length), arr, T, pre, rest, by simp [updN], hnew, rfl, hp, hZ.widen hext, h1⟩
    · rename_i hd
      rcases s.blk id l hf with ⟨h1, h2⟩ | ⟨b, n, arr', T', pre, rest, g1, g2, g3, g4, g5, g6⟩
      · exact .inl ⟨by unfold updN; rw [if_neg (Ne.symm hd)]; exact h1, h2⟩
      · exact .inr ⟨b, n, arr', T', pre, rest, hext _ _ g1, by rw [hold b (s.own id b n g1).2.1]; exact g2, g3, g4, g5.widen hext, g6⟩
  · intro id x p hf
    rw [find_cons] at hf
    split at hf
    · simp at hf
    · obtain ⟨b, n, g1, g2⟩ := s.it id x p hf
      exact ⟨b, n, hext _ _ g1, by rw [hold b (s.own id b n g1).2.1]; exact g2⟩
  · intro id b n g
    unfold updN at g
    split at g
    · simp at g; obtain ⟨rfl, rfl⟩ := g
      refine ⟨hB, by rw [hw, Array.size_push]; omega, fun o => ?_⟩
      cases hm : m w.heap.size o with
      | none => rfl
      | some v => have := s.imm.lt hm; omega
    · obtain ⟨g1, g2, g3⟩ := s.own id b n g
      exact ⟨g1, by rw [hw, Array.size_push]; omega, g3⟩
  · intro id id' b n n' g g'
    unfold updN at g g'
    split at g
    · split at g'
      · omega
      · simp at g; have := (s.own id' b n' g').2.1; omega
    · split at g'
      · simp at g'; have := (s.own id b n g).2.1; omega
      · exact s.inj id id' b n n' g g'

/-- A new block of the call's own. -/
theorem LEx.newOwn {P : Program} {ops : Array Oper} {N : Nat} {o : Oper} {e : Env} {d nm : Nat} {Z : List AV} {x : AV} (hg : o.guard = none) (hd : o.dst = some d) (hN : d < N)
    (H : ∀ (m : Mem) (bl : Names) (a : Act) (w : World), Reads o e m bl a → ∃ (v : Value) (arr : Array Value) (T : TypeId) (pre rest : List Value), (execOp a.eval o).run P w = .ok (.value v) (w.alloc (.cells arr T)) ∧
      arr.toList = pre ++ rest ∧ Reps m bl Z pre ∧ (∀ c ∈ pre, oneCell c = true) ∧ ∀ bl', bl' nm = some (.blk w.heap.size (arr.size, pre.length)) → Rep m bl' x v) :
    LEx P ops N o ⟨reOf e (o.looksAt ops), [], [(d, x)], [(nm, .cells Z)], [nm]⟩ := by
  refine .ofA hg (fun d' h' => by rw [hd] at h'; cases h'; exact hN) ?_
  intro e2 s h f f' hre _ hnm hf' N W0 m0 sa m bl a w S hdN next Q k
  obtain ⟨v, arr, T, pre, rest, hrun, hp, hZ, h1, hx⟩ := H m bl a w (fun t ht y hy => S.env t y (agree_looks hre t (operand_looks ht) y hy))
  obtain ⟨q1, q2⟩ := S.ws.newOwn (w' := w.alloc (.cells arr T)) (d := nm) S.below.size (S.free nm (hnm nm (by simp))) rfl hp hZ h1
  unfold Oper.wp
  rw [hrun, Oper.upon_value]
  refine k _ _ _ m _ rfl ⟨?_, ?_, S.below.alloc S.below.size _, q1, ?_, S.stk.widen q2, ?_⟩
  · simp [Act.put, hd, S.defers]
  · simp [Act.put, hd, S.size]
  · rw [hd]
    exact EnvRep.put (S.env.widen q2) (hx _ (by simp [updN])) (by rw [S.size]; exact hdN d hd)
  · intro d' hd'
    obtain ⟨g1, g2⟩ := hf' d' hd'
    unfold updN; rw [if_neg (by simpa using g2)]; exact S.free d' g1

theorem LEx.alloc {P : Program} {ops : Array Oper} {N : Nat} {o : Oper} {e : Env} {d nm T : Nat} {Z} (hg : o.guard = none) (ho : o.op = .alloc T) (hz : ZeroT P T Z) (hd : o.dst = some d) (hN : d < N) :
    LEx P ops N o ⟨reOf e (o.looksAt ops), [], [(d, .ptr nm 0)], [(nm, .cells Z)], [nm]⟩ := by
  obtain ⟨zs, hz1, hz2, h1⟩ := hz
  refine .newOwn hg hd hN fun m bl a w _ => ?_
  obtain ⟨z, q1, q2⟩ := run_zero_of hz1 w
  refine ⟨.pointer (some ⟨w.heap.size, 0, none⟩), z.cells, T, z.cells.toList, [], ?_, by simp, by rw [q2]; exact hz2.reps, by rw [q2]; simpa using h1, fun bl' hb => .ptr hb⟩
  simp [execOp, ho, Instr.alloc, q1, newVar, newRow]
theorem LEx.box {P : Program} {ops : Array Oper} {N : Nat} {o : Oper} {e : Env} {d nm T : Nat} {y x} (hg : o.guard = none) (ho : o.op = .box T y) (hy : OpdOk e y x) (hs : x.solid = true) (hd : o.dst = some d) (hN : d < N) :
    LEx P ops N o ⟨reOf e (o.looksAt ops), [], [(d, .ptr nm 0)], [(nm, .cells x.cells)], [nm]⟩ := by
  refine .newOwn hg hd hN fun m bl a w hr => ?_
  obtain ⟨g1, g2⟩ := (hy.rep hr (by simp [ho, Op.operands])).cells hs
  exact ⟨.pointer (some ⟨w.heap.size, 0, none⟩), (a.eval y).cells, T, (a.eval y).cells.toList, [], by simp [execOp, ho, Instr.box, newVar, newRow], by simp, g1, g2, fun bl' hb => .ptr hb⟩
/-- A variable that is never written again. -/
theorem QEx.boxC {P : Program} {o : Oper} {e : Env} {T : Nat} {y x} (ho : o.op = .box T y) (hy : OpdOk e y x) (hs : x.solid = true) (hb : allBare x.cells = true) : QEx P o e [] (.cptr x.cells) := by
  intro B m0 hp m bl a w hws hB _ hr next Q k
  obtain ⟨g1, g2⟩ := (hy.rep hr (by simp [ho, Op.operands])).cells hs
  obtain ⟨hs', hle⟩ := hws.newBlk (w' := w.alloc (.cells (a.eval y).cells T)) (arr := (a.eval y).cells) (T := T) (fr := (0, 0)) hB rfl (cs := (a.eval y).cells.toList) (fun j v e => by simpa using e)
  unfold Oper.wp
  rw [show (execOp a.eval o).run P w = .ok (.value (.pointer (some ⟨w.heap.size, 0, none⟩))) (w.alloc (.cells (a.eval y).cells T)) by simp [execOp, ho, Instr.box, newVar, newRow], Oper.upon_value]
  refine k _ _ _ hle ((Below.refl _ _).alloc (Nat.le_refl _) _) hs' (.cptr (cs := (a.eval y).cells.toList) ?_ g2 fun j v e => ?_)
  · have := (g1.bare (bl' := noNames)).mono hle
    rwa [bareL, bareL_of hb] at this
  · simp only [Nat.zero_add]; rw [addBlk_at]; exact e

theorem WSim.store {B m0 h m bl w id b n} {arr na : Array Value} {T : TypeId} {Z : List AV} {pre rest : List Value} (s : WSim B m0 h m bl w) (hb : bl id = some (.blk b n)) (hg : w.heap[b]? = some (.cells arr T (0, 0)))
    (hn : (na.size, pre.length) = n) (hp : na.toList = pre ++ rest) (hZ : Reps m bl Z pre) (h1 : ∀ c ∈ pre, oneCell c = true) : WSim B m0 ((id, .cells Z) :: h) m bl (w.setRow b na) := by
  have hheap := setRow_heap w b arr na T (0, 0) hg
  have hother : ∀ b', b' ≠ b → (w.setRow b na).heap[b']? = w.heap[b']? := fun b' h => setRow_other w b b' na h
  have hsize : (w.setRow b na).heap.size = w.heap.size := by simp [World.setRow]
  obtain ⟨o1, o2, o3⟩ := s.own id b n hb
  refine ⟨?_, s.le, s.grow, ?_, ?_, ?_, s.inj⟩
  · intro b' o v e
    have hne : b' ≠ b := by rintro rfl; rw [o3 o] at e; cases e
    have := s.imm b' o v e
    simp only [World.cell?, hother b' hne] at this ⊢
    exact this
  · intro id' l hf
    rw [find_cons] at hf
    split at hf
    · rename_i hd; subst hd
      simp at hf; subst hf
      exact .inr ⟨b, n, na, T, pre, rest, hb, hheap, hn, hp, hZ, h1⟩
    · rename_i hne
      rcases s.blk id' l hf with h | ⟨b', n', arr', T', pre', rest', g1, g2, g3, g4, g5, g6⟩
      · exact .inl h
      · have hbb : b' ≠ b := by rintro rfl; exact hne (s.inj _ _ _ _ _ hb g1)
        exact .inr ⟨b', n', arr', T', pre', rest', g1, by rw [hother b' hbb]; exact g2, g3, g4, g5, g6⟩
  · intro id' x p hf
    rw [find_cons] at hf
    split at hf
    · simp at hf
    · rename_i hne
      obtain ⟨b', n', g1, g2⟩ := s.it id' x p hf
      have hbb : b' ≠ b := by rintro rfl; exact hne (s.inj _ _ _ _ _ hb g1)
      exact ⟨b', n', g1, by rw [hother b' hbb]; exact g2⟩
  · intro id' b' n' g
    obtain ⟨g1, g2, g3⟩ := s.own id' b' n' g
    exact ⟨g1, by rw [hsize]; exact g2, g3⟩

theorem WSim.at_ {B m0 h m bl w id l b n} (s : WSim B m0 h m bl w) (hf : find id h = some (.cells l)) (hb : bl id = some (.blk b n)) :
    ∃ arr T pre rest, w.heap[b]? = some (.cells arr T (0, 0)) ∧ (arr.size, pre.length) = n ∧ arr.toList = pre ++ rest ∧ Reps m bl l pre ∧ (∀ c ∈ pre, oneCell c = true) := by
  rcases s.blk id l hf with ⟨hn, -⟩ | ⟨b', n', arr, T, pre, rest, g1, g2, g3, g4, g5, g6⟩
  · rw [hn] at hb; cases hb
  · rw [hb] at g1; cases g1; exact ⟨arr, T, pre, rest, g2, g3, g4, g5, g6⟩

theorem LEx.store {P : Program} {ops : Array Oper} {N : Nat} {o : Oper} {e : Env} {t y z id off l x sz} (hg : o.guard = none) (ho : o.op = .store t y z) (hdst : o.dst = none) (hs : tSz P t = some sz) (hy : OpdOk e y (.ptr id off))
    (hz : OpdOk e z x) (hx : x.solid = true) (hl : x.cells.length = sz) (hfit : off + sz ≤ l.length) :
    LEx P ops N o ⟨reOf e (o.looksAt ops), [(id, .cells l)], [], [(id, .cells (l.take off ++ x.cells ++ l.drop (off + sz)))], []⟩ := by
  refine .ofA hg (by rw [hdst]; simp) ?_
  intro e2 s h f f' hre hrh hnm hf' N W0 m0 sa m bl a w S hdN next Q k
  have hR : Reads o e m bl a := fun t ht y hy => S.env t y (agree_looks hre t (operand_looks ht) y hy)
  have r1 := hy.rep hR (by simp [ho, Op.operands])
  obtain ⟨g1, g2⟩ := (hz.rep hR (by simp [ho, Op.operands])).cells hx
  generalize hv : a.eval y = v at r1
  cases r1 with
  | ptr hb =>
    rename_i b n
    obtain ⟨arr, T, pre, rest, hg', hsz, hpre, hr, h1⟩ := S.ws.at_ (show find id _ = some (ABlk.cells l) from hrh (id, .cells l) (by simp)) hb
    have hvs : (a.eval z).cells.toList.length = sz := by rw [← g1.length, hl]
    have hlen := hr.length
    have hal : arr.size = pre.length + rest.length := by rw [← Array.length_toList, hpre, List.length_append]
    have hst := run_storeCells_at P b off T (a.eval z).cells.toList 0 arr w hg' (by simp at hvs ⊢; omega) g2
    simp only [Nat.add_zero] at hst
    have hrun : (execOp a.eval o).run P w = .ok .skip (w.setRow b (arr.toList.take off ++ (a.eval z).cells.toList ++ arr.toList.drop (off + (a.eval z).cells.toList.length)).toArray) := by
      have : (a.eval z).cells.size = sz := by simpa using hvs
      simp [execOp, ho, hv, Instr.storeAt, Instr.sureAddr, storeVar, run_sizeOf_of hs, this] at hst ⊢
      rw [hst]
      simp
    have e1 : arr.toList.take off = pre.take off := by rw [hpre, List.take_append_of_le_length (by omega)]
    have e2' : arr.toList.drop (off + sz) = pre.drop (off + sz) ++ rest := by rw [hpre, List.drop_append_of_le_length (by omega)]
    have := S.ws.store hb hg' (na := (arr.toList.take off ++ (a.eval z).cells.toList ++ arr.toList.drop (off + (a.eval z).cells.toList.length)).toArray) (Z := l.take off ++ x.cells ++ l.drop (off + sz))
      (pre := pre.take off ++ (a.eval z).cells.toList ++ pre.drop (off + sz)) (rest := rest)
      (by rw [← hsz]; simp at hvs ⊢; omega) (by rw [hvs, e1, e2']; simp) (((hr.take off).append g1).append (hr.drop _))
      (by
        intro c hc
        rcases List.mem_append.1 hc with hc | hc
        · rcases List.mem_append.1 hc with hc | hc
          · exact h1 c (List.mem_of_mem_take hc)
          · exact g2 c hc
        · exact h1 c (List.mem_of_mem_drop hc))
    unfold Oper.wp
    rw [hrun, Oper.upon_skip]
    have ho1 := (S.ws.own id b _ hb).1
    refine k _ _ _ m bl rfl ⟨?_, ?_, ?_, this, ?_, S.stk, fun d hd => S.free d (hf' d hd).1⟩
    · simp [Act.put, hdst, S.defers]
    · simp [Act.put, hdst, S.size]
    · exact S.below.trans ⟨rfl, rfl, rfl, by simp [World.setRow], fun k' hk' => setRow_other w b k' _ (by omega)⟩
    · rw [hdst]; exact S.env

theorem Rep.rw_row {B m0 h m bl w id sz v} {xs : List AV} (s : WSim B m0 h m bl w) (hf : find id h = some (.cells (xs.flatMap AV.cells))) (hxs : ∀ x ∈ xs, x.cells.length = sz) (hp : 0 < sz) (r : Rep m bl (.rw id sz) v) :
    Rep m bl (.row id 0 xs.length xs.length sz) v := by
  have hfl := flat_len hxs
  cases r with
  | rwnil hb =>
    have : xs = [] := by
      rcases s.blk id _ hf with ⟨-, g⟩ | ⟨b, n, arr, T, pre, rest, g1, -⟩
      · rw [g] at hfl
        rcases Nat.mul_eq_zero.1 (show xs.length * sz = 0 by rw [← hfl]; rfl) with h | h
        · exact List.eq_nil_of_length_eq_zero h
        · omega
      · rw [g1] at hb; cases hb
    subst this
    exact .rownil
  | rw hb g1 g2 g3 =>
    rename_i b n cap len
    obtain ⟨arr, T, pre, rest, q1, q2, q3, q4, q5⟩ := s.at_ hf hb
    have hn2 : n.2 = pre.length := by rw [← q2]
    have : len = xs.length := Nat.eq_of_mul_eq_mul_right hp (by rw [g1, hn2, ← q4.length, hfl])
    subst this
    exact .row hb (Nat.le_refl _) g2 (by omega)

section
variable {P : Program} {o : Oper} {e : Env}

theorem QEx.loadP {t y id off l sz} (ho : o.op = .load t y) (ha : tAg P t = some true) (hs : tSz P t = some sz) (hy : OpdOk e y (.ptr id off)) (hfit : off + sz ≤ l.length) :
    QEx P o e [(id, l)] (.agg ((l.drop off).take sz)) := by
  refine .pure fun _ _ _ m bl ac w hws hn hr => ?_
  have h1 := hy.rep hr (by simp [ho, Op.operands])
  generalize hv : ac.eval y = v at h1
  cases h1 with
  | ptr hb' =>
    obtain ⟨arr, T, pre, rest, hg, hsz, hp, hrp, ho1⟩ := hws.at_ (show find id _ = some (ABlk.cells l) from hn (id, l) (by simp)) hb'
    have hlen := hrp.length
    refine ⟨.agg ((pre.drop off).take sz).toArray, ?_, .agg ((hrp.drop off).take sz) fun c hc => ho1 c (List.mem_of_mem_drop (List.mem_of_mem_take hc))⟩
    have := run_loadVar_agg (P := P) (ty := t) (cs := (pre.drop off).take sz) (w := w) (b := _) (o := off) ha (by rw [hs]; simp; omega) fun j v hj => by
      rw [cell_of_blk hg]
      exact pre_get hp (take_drop_get hj)
    simp [execOp, ho, hv, Instr.loadAt, Instr.sureAddr, this]

theorem QEx.loadP1 {t y id off l x} (ho : o.op = .load t y) (ha : tAg P t = some false) (hy : OpdOk e y (.ptr id off)) (hx : l[off]? = some x) : QEx P o e [(id, l)] x := by
  refine .pure fun _ _ _ m bl ac w hws hn hr => ?_
  have h1 := hy.rep hr (by simp [ho, Op.operands])
  generalize hv : ac.eval y = v at h1
  cases h1 with
  | ptr hb' =>
    obtain ⟨arr, T, pre, rest, hg, hsz, hp, hrp, ho1⟩ := hws.at_ (show find id _ = some (ABlk.cells l) from hn (id, l) (by simp)) hb'
    obtain ⟨v, hv1, hv2⟩ := hrp.get off x hx
    refine ⟨v, ?_, hv2⟩
    have hc := cell_of_blk (j := off) hg
    rw [pre_get hp hv1] at hc
    simp [execOp, ho, hv, Instr.loadAt, Instr.sureAddr, run_loadVar_one ha hc]

theorem QEx.fieldP {t y f id off fs fd sz} (ho : o.op = .fieldAddr t y f) (hT : P.underlying t = some (.struct fs)) (hf : fs[f]? = some fd) (hs : tSz P fd.type = some sz) (hpos : 0 < sz)
    (hy : OpdOk e y (.ptr id off)) : QEx P o e [] (.ptr id (off + fd.offset)) :=
  .pure fun _ _ _ m bl ac w hws _ hr => by
    have h1 := hy.rep hr (by simp [ho, Op.operands])
    generalize hv : ac.eval y = v at h1
    cases h1 with
    | ptr hb =>
      refine ⟨_, ?_, .ptr hb⟩
      have : ¬ sz = 0 := by omega
      simp [execOp, ho, hv, Instr.fieldAt, run_underlying_of hT, hf, Instr.sureAddr, fieldPlace, run_sizeOf_of hs, this, addr_add]

theorem QEx.indexP {t y z E n sz k i id off} (ho : o.op = .indexAddr t y z) (hT : P.underlying t = some (.array n E)) (hs : tSz P E = some sz) (hy : OpdOk e y (.ptr id off))
    (hz : OpdOk e z (.v (.int k i))) (h0 : 0 ≤ i) (h1 : i < n) : QEx P o e [] (.ptr id (off + i.toNat * sz)) :=
  .pure fun _ _ _ m bl ac w hws _ hr => by
    have r1 := hy.rep hr (by simp [ho, Op.operands])
    have r2 := (hz.rep hr (by simp [ho, Op.operands])).eq_v
    generalize hv : ac.eval y = v at r1
    cases r1 with
    | ptr hb =>
      refine ⟨_, ?_, .ptr hb⟩
      simp [execOp, ho, hv, r2, Instr.indexAt, asIntOf, run_underlying_of hT, Instr.sureAddr, h0, h1, run_sizeOf_of hs, addr_add]
/-- The same at an array behind a pointer into immutable memory. -/
theorem QEx.indexC {t y z E n sz k i l} (ho : o.op = .indexAddr t y z) (hT : P.underlying t = some (.array n E)) (hs : tSz P E = some sz) (hy : OpdOk e y (.cptr l))
    (hz : OpdOk e z (.v (.int k i))) (h0 : 0 ≤ i) (h1 : i < n) : QEx P o e [] (.cptr ((l.drop (i.toNat * sz)).take sz)) :=
  .pure fun _ _ _ m bl ac w hws _ hr => by
    have r1 := hy.rep hr (by simp [ho, Op.operands])
    have r2 := (hz.rep hr (by simp [ho, Op.operands])).eq_v
    generalize hv : ac.eval y = v at r1
    cases r1 with
    | cptr g1 g2 g3 =>
      rename_i b off cs
      refine ⟨.pointer (some ⟨b, off + i.toNat * sz, none⟩), ?_, .cptr (cs := (cs.drop (i.toNat * sz)).take sz) ((g1.drop _).take _) (fun c hc => g2 c (List.mem_of_mem_drop (List.mem_of_mem_take hc))) ?_⟩
      · simp [execOp, ho, hv, r2, Instr.indexAt, asIntOf, run_underlying_of hT, Instr.sureAddr, h0, h1, run_sizeOf_of hs, addr_add]
      · intro j v hj
        rw [Nat.add_assoc]
        exact g3 _ v (take_drop_get hj)
theorem QEx.nilP {y id off} (ho : o.op = .nilCheck y) (hy : OpdOk e y (.ptr id off)) : QEx P o e [] (.ptr id off) :=
  .pure fun _ _ _ m bl ac w hws _ hr => by
    have h1 := hy.rep hr (by simp [ho, Op.operands])
    generalize hv : ac.eval y = v at h1
    cases h1 with
    | ptr hb => exact ⟨_, by simp [execOp, ho, hv], .ptr hb⟩

/-- What the operand stands for where the own blocks 'need' are looked at. -/
def ROk (o : Oper) (e : Env) (need : List (Nat × List AV)) (y : Operand) (x : AV) : Prop :=
  ∀ (B : Nat) (m0 : Mem) (h : Hp) (m : Mem) (bl : Names) (a : Act) (w : World), WSim B m0 h m bl w → (∀ p ∈ need, find p.1 h = some (.cells p.2)) → Reads o e m bl a → Rep m bl x (a.eval y)
theorem OpdOk.r {o : Oper} {e need y x} (h : OpdOk e y x) (hm : y ∈ o.op.operands) : ROk o e need y x := fun _ _ _ _ _ _ _ _ _ hr => h.rep hr hm
theorem ROk.rw {o : Oper} {e need y id sz} {xs : List AV} (h : OpdOk e y (.rw id sz)) (hm : y ∈ o.op.operands) (hn : (id, xs.flatMap AV.cells) ∈ need) (hxs : ∀ x ∈ xs, x.cells.length = sz) (hp : 0 < sz) : ROk o e need y (.row id 0 xs.length xs.length sz) :=
  fun _ _ hh _ _ _ _ hws hnd hr => (h.rep hr hm).rw_row hws (show find id hh = some (.cells _) from hnd _ hn) hxs hp
/-! slices of own blocks -/
theorem QEx.lenR {y t id off len mc sz E need} (ho : o.op = .call { callee := .builtin .len, args := #[y], argTypes := #[t] }) (ht : P.underlying t = some (.slice E)) (hy : ROk o e need y (.row id off len mc sz)) :
    QEx P o e need (.v (.int .i64 len)) :=
  .pure fun _ _ _ m bl ac w hws hnd hr => by
    have h1 := hy _ _ _ _ _ _ _ hws hnd hr
    refine ⟨_, ?_, .v⟩
    generalize hv : ac.eval y = v at h1
    cases h1 <;> simp [execOp, ho, hv, resolve, invoke, builtin, Builtin.len_, underlying, ht, goInt]
theorem QEx.indexR {t y z E sz k i id off len mc need} (ho : o.op = .indexAddr t y z) (hT : P.underlying t = some (.slice E)) (hs : tSz P E = some sz) (hy : ROk o e need y (.row id off len mc sz))
    (hz : OpdOk e z (.v (.int k i))) (h0 : 0 ≤ i) (h1 : i < len) : QEx P o e need (.ptr id (off + i.toNat * sz)) :=
  .pure fun _ _ _ m bl ac w hws hnd hr => by
    have r1 := hy _ _ _ _ _ _ _ hws hnd hr
    have r2 := (hz.rep hr (by simp [ho, Op.operands])).eq_v
    generalize hv : ac.eval y = v at r1
    cases r1 with
    | rownil => omega
    | row hb g1 g2 g3 =>
      refine ⟨_, ?_, .ptr hb⟩
      simp [execOp, ho, hv, r2, Instr.indexAt, asIntOf, run_underlying_of hT, h0, h1, run_sizeOf_of hs, addr_add]
/-- s[lo:hi] -/
theorem QEx.sliceR {t y lo hi E sz by_ id off len mc a b need} (ho : o.op = .slice t y lo hi none) (ht : ElemT P t E sz by_) (hy : ROk o e need y (.row id off len mc sz))
    (hlo : BoundOk e lo 0 a) (hhi : BoundOk e hi len b) (hab : a ≤ b) (hb : b ≤ mc) (hlm : hi = none → len ≤ mc) : QEx P o e need (.row id (off + a * sz) (b - a) (mc - a) sz) :=
  .pure fun _ _ _ m bl ac w hws hnd hr => by
    have h1 := hy _ _ _ _ _ _ _ hws hnd hr
    generalize hv : ac.eval y = v at h1
    have e1 : ∀ cap : Nat, b ≤ cap → len ≤ cap → (Instr.sliceBounds true len cap (lo.map ac.eval) (hi.map ac.eval) none).run P w = .ok (a, b, cap) w := by
      intro cap hc hl
      cases hlo with
      | none =>
        cases hhi with
        | none => simp [Instr.sliceBounds]
        | some h2 h3 =>
          have := (h2.rep hr (by simp [ho, Op.operands])).eq_v
          rename_i k i
          have hi' : i ≤ (cap : Int) := by omega
          simp [Instr.sliceBounds, this, Instr.sliceBound, asIntOf, h3, hi']
      | some g2 g3 =>
        have hg := (g2.rep hr (by simp [ho, Op.operands])).eq_v
        rename_i gk gi
        cases hhi with
        | none =>
          have hi' : gi ≤ (len : Int) := by omega
          simp [Instr.sliceBounds, hg, Instr.sliceBound, asIntOf, g3, hi']
        | some h2 h3 =>
          have := (h2.rep hr (by simp [ho, Op.operands])).eq_v
          rename_i k i
          have hi' : i ≤ (cap : Int) := by omega
          have hg' : gi ≤ i := by omega
          have hm : max i 0 = i := by omega
          simp [Instr.sliceBounds, this, hg, Instr.sliceBound, asIntOf, h3, hi', g3, hg', hm]
    cases h1 with
    | rownil =>
      rename_i ad
      have hb0 : b = 0 := by omega
      have ha0 : a = 0 := by omega
      subst hb0 ha0
      refine ⟨.slice ad 0 0, ?_, by simpa using Rep.rownil⟩
      have := e1 0 (Nat.le_refl _) (Nat.le_refl _)
      cases ad <;> simp [execOp, ho, hv, Instr.sliceAt, run_underlying_of ht.under, Instr.slice, this, run_sizeOf_of ht.sz]
    | row hb' g1 g2 g3 =>
      rename_i bb n cap
      have hrun := e1 cap (by omega) (by omega)
      by_cases hca : cap = a
      · have hb0 : b - a = 0 := by omega
        have hm0 : mc - a = 0 := by omega
        refine ⟨.slice (some ⟨bb, off, none⟩) (b - a) (cap - a), ?_, ?_⟩
        · simp only [execOp, ho, hv, Instr.sliceAt, Sem.run_bind, run_underlying_of ht.under, Result.andThen_ok, Instr.slice, Option.map_none, hrun, run_sizeOf_of ht.sz, Sem.run_pure]
          simp [hca]
        · rw [hb0, hm0, show cap - a = 0 by omega]; exact .rownil
      · refine ⟨.slice (some ⟨bb, off + a * sz, none⟩) (b - a) (cap - a), ?_, .row hb' (by omega) (by omega) ?_⟩
        · simp only [execOp, ho, hv, Instr.sliceAt, Sem.run_bind, run_underlying_of ht.under, Result.andThen_ok, Instr.slice, Option.map_none, hrun, run_sizeOf_of ht.sz, Sem.run_pure]
          simp [hca, addr_add]
        · have : (cap - a) * sz = cap * sz - a * sz := Nat.sub_mul _ _ _
          have : a * sz ≤ cap * sz := Nat.mul_le_mul_right _ (by omega)
          omega
end
end Go.Rx
