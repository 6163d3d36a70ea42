/-
  Own slices appended to in place, cleared, made, told as strings; strings ranged over; functions as values; structs compared; what is nil. Conditions: those named in each rule.
-/
import Derived.Test.YtdknhngjfoaphaaGreatRxJ
set_option linter.all false
namespace Go.Rx
open Go.RowKit

theorem splice {arr pre rest : List Value} {cs : List Value} {off : Nat} (h : arr = pre ++ rest) (hf : off + cs.length ≤ pre.length) :
    arr.take off ++ cs ++ arr.drop (off + cs.length) = (pre.take off ++ cs ++ pre.drop (off + cs.length)) ++ rest := by
  rw [h, List.take_append_of_le_length (by omega), List.drop_append_of_le_length (by omega)]
  simp
theorem mem_splice {pre : List Value} {cs : List Value} {a b : Nat} {p : Value → Prop} (h1 : ∀ c ∈ pre, p c) (h2 : ∀ c ∈ cs, p c) : ∀ c ∈ pre.take a ++ cs ++ pre.drop b, p c := by
  intro c hc
  rcases List.mem_append.1 hc with hc | hc
  · rcases List.mem_append.1 hc with hc | hc
    · exact h1 c (List.mem_of_mem_take hc)
    · exact h2 c hc
  · exact h1 c (List.mem_of_mem_drop hc)

section
variable {P : Program} {o : Oper} {e : Env}

/-- Cells written into an own block by an operation that yields v. -/
theorem LEx.write {ops : Array Oper} {N : Nat} {id off need l Z x} (hg : o.guard = none) (hd : ∀ d, o.dst = some d → d < N) (hl : (id, l) ∈ need) (hfit : off + Z.length ≤ l.length)
    (H : ∀ (B : Nat) (m0 : Mem) (h : Hp) (m : Mem) (bl : Names) (a : Act) (w : World), WSim B m0 h m bl w → (∀ p ∈ need, find p.1 h = some (.cells p.2)) → Reads o e m bl a →
      ∃ (cs : List Value) (b : Nat) (n : Nat × Nat), bl id = some (.blk b n) ∧ Reps m bl Z cs ∧ (∀ c ∈ cs, oneCell c = true) ∧
        ∀ arr T, w.heap[b]? = some (.cells arr T (0, 0)) → off + cs.length ≤ arr.size → ∃ r, (execOp a.eval o).run P w = .ok r (w.setRow b (arr.toList.take off ++ cs ++ arr.toList.drop (off + cs.length)).toArray) ∧
          match o.dst with | none => (r = .skip ∨ ∃ v, r = .value v) | some d => ∃ v, r = .value v ∧ Rep m bl x v) :
    LEx P ops N o ⟨reOf e (o.looksAt ops), needH need, match o.dst with | none => [] | some d => [(d, x)], [(id, .cells (l.take off ++ Z ++ l.drop (off + Z.length)))], []⟩ := by
  refine .ofA hg hd ?_
  intro e2 s h f f' hre hrh hnm hf' N W0 m0 sa m bl a w S hdN next Q k
  have hR : Reads o e m bl a := fun t ht y hy => S.env t y (agree_looks hre t (operand_looks ht) y hy)
  have hneed := needH_mem.1 hrh
  obtain ⟨cs, b, n, hb, hZ, h1, hrun⟩ := H _ _ _ m bl a w S.ws hneed hR
  obtain ⟨arr, T, pre, rest, q1, q2, q3, q4, q5⟩ := S.ws.at_ (show find id h = some (ABlk.cells l) from hneed _ hl) hb
  have hlen := q4.length
  have hzl := hZ.length
  have hal : arr.size = pre.length + rest.length := by rw [← Array.length_toList, q3, List.length_append]
  obtain ⟨r, hr1, hr2⟩ := hrun arr T q1 (by omega)
  have hst := S.ws.store hb q1 (na := (arr.toList.take off ++ cs ++ arr.toList.drop (off + cs.length)).toArray) (Z := l.take off ++ Z ++ l.drop (off + Z.length)) (pre := pre.take off ++ cs ++ pre.drop (off + cs.length)) (rest := rest)
    (by rw [← q2]; simp; omega) (by rw [splice q3 (by omega)]) (by rw [hzl]; exact ((q4.take off).append hZ).append (q4.drop _)) (mem_splice q5 h1)
  have ho1 := (S.ws.own id b _ hb).1
  have hbel : Below W0.heap.size W0 (w.setRow b (arr.toList.take off ++ cs ++ arr.toList.drop (off + cs.length)).toArray) :=
    S.below.trans ⟨rfl, rfl, rfl, by simp [World.setRow], fun k' hk' => setRow_other w b k' _ (by omega)⟩
  unfold Oper.wp
  cases hdst : o.dst with
  | none =>
    simp only [hdst] at hr2 k
    rw [hr1]
    have fin : ∀ v, next (a.put o.dst v) (w.setRow b (arr.toList.take off ++ cs ++ arr.toList.drop (off + cs.length)).toArray) := by
      intro v
      refine k _ _ _ m bl rfl ⟨?_, ?_, hbel, hst, ?_, S.stk, fun d hd => S.free d (hf' d hd).1⟩
      · simp [Act.put, hdst, S.defers]
      · simp [Act.put, hdst, S.size]
      · rw [hdst]; exact S.env
    rcases hr2 with rfl | ⟨v, rfl⟩
    · rw [Oper.upon_skip]; exact fin _
    · rw [Oper.upon_value]; exact fin _
  | some d =>
    simp only [hdst] at hr2 k
    obtain ⟨v, rfl, hv⟩ := hr2
    rw [hr1, Oper.upon_value]
    refine k _ _ _ m bl rfl ⟨?_, ?_, hbel, hst, ?_, S.stk, fun d hd => S.free d (hf' d hd).1⟩
    · simp [Act.put, hdst, S.defers]
    · simp [Act.put, hdst, S.size]
    · rw [hdst]; exact EnvRep.put S.env hv (by rw [S.size]; exact hdN d hdst)

/-- An append for which there is room. -/
theorem LEx.appIn {ops : Array Oper} {N : Nat} {t tz y z E sz by_ l2 d id off len mc l need} (hg : o.guard = none) (hd : o.dst = some d) (hN : d < N) (ho : o.op = .call { callee := .builtin .append, args := #[y, z], argTypes := #[t, tz] }) (ht : ElemT P t E sz by_)
    (hy : OpdOk e y (.row id off len mc sz)) (hl : (id, l) ∈ need) (hfit : off + (len + l2.length) * sz ≤ l.length) (hroom : len + l2.length ≤ mc) (h0 : 0 < mc) (hz : SrcOk P o e need sz tz z l2) :
    LEx P ops N o ⟨reOf e (o.looksAt ops), needH need, [(d, .row id off (len + l2.length) mc sz)], [(id, .cells (l.take (off + len * sz) ++ l2.flatMap AV.cells ++ l.drop (off + len * sz + (l2.flatMap AV.cells).length)))], []⟩ := by
  have key := LEx.write (P := P) (ops := ops) (N := N) (o := o) (e := e) (id := id) (off := off + len * sz) (need := need) (l := l) (Z := l2.flatMap AV.cells) (x := .row id off (len + l2.length) mc sz) hg (fun d' h' => by rw [hd] at h'; cases h'; exact hN) hl
  rw [hd] at key
  by_cases hlen2 : (l2.flatMap AV.cells).length = l2.length * sz
  · refine key (by rw [hlen2]; rw [Nat.add_mul] at hfit; omega) ?_
    intro B m0 h m bl a w hws hneed hR
    obtain ⟨cs2, src, reps2, el2⟩ := hz B m0 h m bl a w hws hneed hR
    have r1 := hy.rep hR (by simp [ho, Op.operands, Call.operands])
    generalize hv : a.eval y = v at r1
    cases r1 with
    | rownil => omega
    | row hb g1 g2 g3 =>
      rename_i b n cap
      refine ⟨cs2, b, n, hb, reps2.widen (by simp [noNames]), src.one, fun arr T q1 hfit2 => ?_⟩
      have hst := run_storeCells_at P b (off + len * sz) T cs2 0 arr w q1 (by simpa using hfit2) src.one
      simp only [Nat.add_zero] at hst
      have hroom2 : len + l2.length ≤ cap := by omega
      have hrun : (Builtin.append_ #[t, tz] o.type #[.slice (some ⟨b, off, none⟩) len cap, a.eval z]).run P w = .ok (.slice (some ⟨b, off, none⟩) (len + l2.length) cap)
          (w.setRow b (arr.toList.take (off + len * sz) ++ cs2 ++ arr.toList.drop (off + len * sz + cs2.length)).toArray) := by
        rcases src.kind with ⟨e', hk⟩ | hk <;> simp [Builtin.append_, run_underlying_of ht.under, run_underlying_of hk, run_sizeOf_of ht.sz, src.len, src.cells, hroom2, addr_add, hst]
      exact ⟨_, run_append2 ho (by rw [hv]; exact hrun), _, rfl, .row hb hroom g2 g3⟩
  · intro e2 s h f f' hre hrh hnm hf' W0 m0 sa m bl a w S next Q k
    obtain ⟨cs2, src, reps2, el2⟩ := hz _ _ _ m bl a w S.ws (needH_mem.1 hrh) (fun t ht y hy => S.env t y (agree_looks hre t (operand_looks ht) y hy))
    exact absurd (flat_len el2) hlen2

theorem zeroCells_flat (z : Array Value) : ∀ n, (Builtin.zeroCells z n).toList = (List.replicate n z.toList).flatten := by
  intro n
  have : ∀ n, (List.range (n * z.size)).map (fun i => z[i % z.size]!) = (List.replicate n z.toList).flatten := by
    intro n
    induction n with
    | zero => simp
    | succ n ih =>
      rw [Nat.add_mul, Nat.one_mul, List.range_add, List.map_append, ih, List.replicate_succ', List.flatten_append]
      congr 1
      simp only [List.map_map, List.flatten_cons, List.flatten_nil, List.append_nil]
      apply List.ext_getElem
      · simp
      · intro i h1 h2
        simp at h1
        have : (n * z.size + i) % z.size = i := by rw [Nat.mul_comm, Nat.mul_add_mod]; exact Nat.mod_eq_of_lt h1
        simp [this, h1]
  rw [← this n]
  simp [Builtin.zeroCells]
theorem Reps.zeros {m bl Z vs} (h : Reps m bl Z vs) : ∀ n, Reps m bl (List.replicate n Z).flatten (List.replicate n vs).flatten
  | 0 => by simp; exact .nil
  | n + 1 => by simpa [List.replicate_succ] using h.append (Reps.zeros h n)

theorem LEx.clearR {ops : Array Oper} {N : Nat} {t y E sz by_ id off len mc l need Z} (hg : o.guard = none) (hd : o.dst = none) (ho : o.op = .call { callee := .builtin .clear, args := #[y], argTypes := #[t] }) (ht : ElemT P t E sz by_) (hz : ZeroT P E Z)
    (hy : OpdOk e y (.row id off len mc sz)) (hl : (id, l) ∈ need) (hfit : off + (List.replicate len Z).flatten.length ≤ l.length) (h0 : 0 < mc) :
    LEx P ops N o ⟨reOf e (o.looksAt ops), needH need, [], [(id, .cells (l.take off ++ (List.replicate len Z).flatten ++ l.drop (off + (List.replicate len Z).flatten.length)))], []⟩ := by
  have key := LEx.write (P := P) (ops := ops) (N := N) (o := o) (e := e) (id := id) (off := off) (need := need) (l := l) (Z := (List.replicate len Z).flatten) (x := .undef) hg (by rw [hd]; simp) hl hfit
  rw [hd] at key
  refine key ?_
  intro B m0 h m bl a w hws hneed hR
  have r1 := hy.rep hR (by simp [ho, Op.operands, Call.operands])
  obtain ⟨zs, hz0, hzs, h1⟩ := hz
  obtain ⟨z, hz1, hz2⟩ := run_zero_of hz0 w
  generalize hv : a.eval y = v at r1
  cases r1 with
  | rownil => omega
  | row hb g1 g2 g3 =>
    rename_i b n cap
    refine ⟨(List.replicate len zs).flatten, b, n, hb, (hzs.reps).zeros len, ?_, fun arr T q1 hfit2 => ?_⟩
    · intro c hc
      obtain ⟨l', hl', hc'⟩ := List.mem_flatten.1 hc
      obtain ⟨-, rfl⟩ := List.mem_replicate.1 hl'
      exact List.all_eq_true.1 h1 c hc'
    · have hzc : (Builtin.zeroCells z.cells len).toList = (List.replicate len zs).flatten := by rw [zeroCells_flat, hz2]
      have hone : ∀ c ∈ (List.replicate len zs).flatten, oneCell c = true := by
        intro c hc
        obtain ⟨l', hl', hc'⟩ := List.mem_flatten.1 hc
        obtain ⟨-, rfl⟩ := List.mem_replicate.1 hl'
        exact List.all_eq_true.1 h1 c hc'
      have hst := run_storeCells_at P b off T (List.replicate len zs).flatten 0 arr w q1 (by simpa using hfit2) hone
      simp only [Nat.add_zero] at hst
      refine ⟨.value (.tuple #[]), ?_, .inr ⟨_, rfl⟩⟩
      unfold execOp
      simp only [ho, resolve, invoke, builtin, Sem.run_bind, Sem.run_pure, Result.andThen_ok, List.map_toArray, List.map_cons, List.map_nil, hv]
      by_cases hlen : len = 0
      · subst hlen
        simp [Builtin.clear_, run_underlying_of ht.under]
        rw [setRow_self w b arr T (0, 0) q1]
      · simp [Builtin.clear_, run_underlying_of ht.under, hz1, hzc, hst]

/-- A slice made: zeros, of the call's own. -/
theorem LEx.makeRow {ops : Array Oper} {N : Nat} {t x y E sz by_ d nm k k' n c Z} (hg : o.guard = none) (hd : o.dst = some d) (hN : d < N) (ho : o.op = .makeSlice t x y) (ht : ElemT P t E sz by_) (hz : ZeroT P E Z)
    (hx : OpdOk e x (.v (.int k n))) (hy : OpdOk e y (.v (.int k' c))) (h0 : 0 ≤ n) (h1 : n ≤ c) (hb : (by_ : Int) * c ≤ 281474976710656) (h63 : c ≤ 9223372036854775807) :
    LEx P ops N o ⟨reOf e (o.looksAt ops), [], [(d, .rw nm sz)], [(nm, .cells (List.replicate n.toNat Z).flatten)], [nm]⟩ := by
  refine .newOwn hg hd hN fun m bl a w hr => ?_
  have r1 := (hx.rep hr (by simp [ho, Op.operands])).eq_v
  have r2 := (hy.rep hr (by simp [ho, Op.operands])).eq_v
  obtain ⟨i, zv, hi1, hi2, hi3, hi4, hi5, hi6⟩ := ht.info
  obtain ⟨zs, hz0, hzs, hz1⟩ := hz
  have hzz : zv.cells.toList = zs := by unfold tZero at hz0; rw [hi1] at hz0; simp [hi2] at hz0; exact hz0
  have hrun := run_make (P := P) w t E i zv ht.under hi1 hi2 k k' n c h0 h1 (by rw [hi4]; exact hb) h63
  rw [hi3] at hrun
  have hcl : (madeCells zv.cells (c.toNat * sz)).toList = (List.replicate c.toNat zs).flatten := by
    have := zeroCells_flat zv.cells c.toNat
    rw [hzz] at this
    rw [← this, ← hi5]; rfl
  have hzl : zs.length = sz := by rw [← hzz, ← hi5]; simp
  have hfl : ∀ n : Nat, (List.replicate n zs).flatten.length = n * sz := by
    intro n; simp [List.length_flatten, hzl]
  have hsp : (List.replicate c.toNat zs).flatten = (List.replicate n.toNat zs).flatten ++ (List.replicate (c.toNat - n.toNat) zs).flatten := by
    rw [← List.flatten_append, List.replicate_append_replicate]; congr 2; omega
  refine ⟨.slice (some ⟨w.heap.size, 0, none⟩) n.toNat c.toNat, madeCells zv.cells (c.toNat * sz), E, (List.replicate n.toNat zs).flatten, (List.replicate (c.toNat - n.toNat) zs).flatten, ?_, by rw [hcl, hsp], (hzs.reps).zeros _, ?_, fun bl' hb' => ?_⟩
  · simp only [execOp, ho, r1, r2, Sem.run_bind, hrun, Result.andThen_ok, Sem.run_pure]
  · intro c' hc
    obtain ⟨l', hl', hc'⟩ := List.mem_flatten.1 hc
    obtain ⟨-, rfl⟩ := List.mem_replicate.1 hl'
    exact List.all_eq_true.1 hz1 c' hc'
  · have hs : (madeCells zv.cells (c.toNat * sz)).size = c.toNat * sz := size_madeCells _ _
    exact .rw hb' (hfl _).symm (by omega) (by rw [hs]; exact Nat.le_refl _)

/-- A string of the bytes of an own slice. -/
theorem QEx.rowStr {s d y E id off len mc l need} {bs : List UInt8} (ho : o.op = .convert s d y) (hs : P.underlying s = some (.slice E)) (hE : P.underlying E = some (.int .u8)) (hd : P.underlying d = some .string)
    (hy : ROk o e need y (.row id off len mc 1)) (hl : (id, l) ∈ need) (hb : (l.drop off).take len = bs.map byteAV) (hlen : bs.length = len) : QEx P o e need (.v (.string ⟨bs.toArray⟩)) :=
  .pure fun _ _ h m bl ac w hws hn hr => by
    have h1 := hy _ _ _ _ _ _ _ hws hn hr
    refine ⟨_, ?_, .v⟩
    generalize hv : ac.eval y = v at h1
    cases h1 with
    | rownil =>
      rename_i ad
      have : bs = [] := List.eq_nil_of_length_eq_zero hlen
      subst this
      cases ad with
      | none =>
        have := run_convert_bytes_nil (P := P) w s E hs hE 0 0 d hd
        simp only [execOp, ho, hv, Sem.run_bind, this, Result.andThen_ok, Sem.run_pure]
        rfl
      | some a =>
        have hl2 := run_loadCells_list (P := P) w a [] (by simp)
        have h2 := run_bytesToString (P := P) w a 0 0 [] (by simpa using hl2)
        have h3 := run_convert_bytes_string (P := P) w s d E (some a) 0 0 hs hE hd
        simp only [execOp, ho, hv, Sem.run_bind, h3, h2, Result.andThen_ok, Sem.run_pure]
        rfl
    | row hb' g1 g2 g3 =>
      rename_i b n cap
      obtain ⟨arr, T, pre, rest, q1, q2, q3, q4, q5⟩ := hws.at_ (show find id h = some (ABlk.cells l) from hn _ hl) hb'
      have hcs := (q4.drop off).take len
      rw [hb] at hcs
      have hcs2 := hcs.bytes
      have hl2 := run_loadCells_list (P := P) w ⟨b, off, none⟩ ((pre.drop off).take len) (fun j v e => by
        rw [addr_add, cell_of_blk q1]
        exact pre_get q3 (take_drop_get e))
      have hlen2 : ((pre.drop off).take len).length = len := by rw [hcs2, List.length_map, hlen]
      rw [hlen2, hcs2] at hl2
      have hm : (bs.map fun b => Value.int .u8 b.toNat) = (bs.map fun b => (b.toNat : Int)).map (Value.int .u8) := by simp
      rw [hm] at hl2
      have h2 := run_bytesToString (P := P) w ⟨b, off, none⟩ len cap _ hl2
      have h3 := run_convert_bytes_string (P := P) w s d E (some ⟨b, off, none⟩) len cap hs hE hd
      rw [foldl_push_byteCells] at h2
      simp only [execOp, ho, hv, Sem.run_bind, h3, h2, Result.andThen_ok, Sem.run_pure]
      simp

/-- A slice of an own array. -/
theorem QEx.sliceA {t y lo hi E n sz id off a b} (ho : o.op = .slice t y lo hi none) (hT : P.underlying t = some (.array n E)) (hs : tSz P E = some sz) (hy : OpdOk e y (.ptr id off))
    (hlo : BoundOk e lo 0 a) (hhi : BoundOk e hi n b) (hab : a ≤ b) (hb : b ≤ n) {l : List AV} (hfit : off + n * sz ≤ l.length) : QEx P o e [(id, l)] (.row id (off + a * sz) (b - a) (n - a) sz) :=
  .pure fun _ _ h m bl ac w hws hn hr => by
    have h1 := hy.rep hr (by simp [ho, Op.operands])
    have e1 : (Instr.sliceBounds false n n (lo.map ac.eval) (hi.map ac.eval) none).run P w = .ok (a, b, n) w := by
      cases hlo with
      | none =>
        cases hhi with
        | none => simp [Instr.sliceBounds]
        | some h2 h3 =>
          have := (h2.rep hr (by simp [ho, Op.operands])).eq_v
          rename_i k i
          have hi' : i ≤ (n : Int) := by omega
          simp [Instr.sliceBounds, this, Instr.sliceBound, asIntOf, h3, hi']
      | some g2 g3 =>
        have hg := (g2.rep hr (by simp [ho, Op.operands])).eq_v
        rename_i gk gi
        cases hhi with
        | none =>
          have hi' : gi ≤ (n : Int) := by omega
          simp [Instr.sliceBounds, hg, Instr.sliceBound, asIntOf, g3, hi']
        | some h2 h3 =>
          have := (h2.rep hr (by simp [ho, Op.operands])).eq_v
          rename_i k i
          have hi' : i ≤ (n : Int) := by omega
          have hg' : gi ≤ i := by omega
          have hm : max i 0 = i := by omega
          simp [Instr.sliceBounds, this, hg, Instr.sliceBound, asIntOf, h3, hi', g3, hg', hm]
    generalize hv : ac.eval y = v at h1
    cases h1 with
    | ptr hb' =>
      rename_i bb nn
      obtain ⟨arr, T, pre, rest, q1, q2, q3, q4, q5⟩ := hws.at_ (show find id h = some (ABlk.cells l) from hn (id, l) (by simp)) hb'
      have hal : arr.size = pre.length + rest.length := by rw [← Array.length_toList, q3, List.length_append]
      have hpl := q4.length
      by_cases hna : n = a
      · refine ⟨.slice (some ⟨bb, off, none⟩) (b - a) (n - a), ?_, ?_⟩
        · simp only [execOp, ho, hv, Instr.sliceAt, Sem.run_bind, run_underlying_of hT, Result.andThen_ok, Instr.sureAddr, Option.map_none, e1, run_sizeOf_of hs, Sem.run_pure]
          simp [hna]
        · rw [show b - a = 0 by omega, show n - a = 0 by omega]; exact .rownil
      · refine ⟨.slice (some ⟨bb, off + a * sz, none⟩) (b - a) (n - a), ?_, .row hb' (by omega) (Nat.le_refl _) ?_⟩
        · simp only [execOp, ho, hv, Instr.sliceAt, Sem.run_bind, run_underlying_of hT, Result.andThen_ok, Instr.sureAddr, Option.map_none, e1, run_sizeOf_of hs, Sem.run_pure]
          simp [hna, addr_add]
        · have hn1 : nn.1 = arr.size := by rw [← q2]
          have h1 : (n - a) * sz = n * sz - a * sz := Nat.sub_mul _ _ _
          have h2 : a * sz ≤ n * sz := Nat.mul_le_mul_right _ (by omega)
          omega

/-! functions as values -/
theorem QEx.mkF {f : FuncId} {fi ca : Array Operand} {caps : List AV} (ho : o.op = .makeFunc (.func f) fi ca) (hfi : fi = #[]) (hx : OpdsOk e ca.toList caps) : QEx P o e [] (.clo f caps) :=
  .pure fun _ _ _ m bl a w _ _ hr => by
    subst hfi
    have h1 := hx.reps (o := o) hr (fun y hy => by rw [ho]; simp only [Op.operands]; simpa using hy)
    refine ⟨.func (.func f) #[] (ca.toList.map a.eval).toArray, ?_, .clo h1⟩
    have ha : (ca.toList.map a.eval).toArray = ca.map a.eval := Array.ext' (by rw [Array.toList_map])
    rw [ha]
    simp [execOp, ho, Instr.makeFunc]

/-! structs compared -/
def EqT {α : Type} (P : Program) (t : TypeId) (E : α → AV) (beq : α → α → Bool) : Prop :=
  P.eqGuardType P.depth t = false ∧ ∃ vs : α → List Value, (∀ x, E x = .agg ((vs x).map AV.v)) ∧ ∀ (w : World) x y, (Op.equalIn 10000 t (.agg (vs x).toArray) (.agg (vs y).toArray)).run P w = .ok (beq x y) w
theorem if_ok {c : Prop} [Decidable c] {p : Bool} {w : World} : (if c then Result.ok p w else Result.ok false w) = Result.ok (decide c && p) w := by split <;> simp [*]
theorem Reps.vs {m bl} : ∀ {l vs : List Value}, Reps m bl (l.map AV.v) vs → vs = l
  | [], _, .nil => rfl
  | _ :: _, _, .cons h t => by rw [t.vs, h.eq_v]
theorem Rep.aggV {m bl v} {l : List Value} (h : Rep m bl (.agg (l.map AV.v)) v) : v = .agg l.toArray := by
  generalize hz : AV.agg (l.map AV.v) = z at h
  cases h <;> cases hz
  rename_i h1 h2 h3
  rw [h3.vs]
theorem QEx.eqlA {α : Type} {E : α → AV} {beq : α → α → Bool} {t y z a b} (ho : o.op = .binOp .eql t y z t) (ht : EqT P t E beq) (hy : OpdOk e y (E a)) (hz : OpdOk e z (E b)) : QEx P o e [] (.v (.bool (beq a b))) :=
  .pure fun _ _ _ _ _ ac w _ _ hr => by
    obtain ⟨hg, vs, hE, heq⟩ := ht
    rw [hE] at hy hz
    have h1 := (hy.rep hr (by simp [ho, Op.operands])).aggV
    have h2 := (hz.rep hr (by simp [ho, Op.operands])).aggV
    refine ⟨.bool (beq a b), ?_, .v⟩
    have h3 := run_eqGuard_agg (P := P) w .eql t y z (vs a).toArray (vs b).toArray hg
    have h4 := run_eql_struct (P := P) w t (vs a).toArray (vs b).toArray
    rw [heq w a b] at h4
    simp only [Result.andThen_ok] at h4
    simp [execOp, ho, h1, h2, h3, h4]
theorem QEx.neqA {α : Type} {E : α → AV} {beq : α → α → Bool} {t y z a b} (ho : o.op = .binOp .neq t y z t) (ht : EqT P t E beq) (hy : OpdOk e y (E a)) (hz : OpdOk e z (E b)) : QEx P o e [] (.v (.bool (!beq a b))) :=
  .pure fun _ _ _ _ _ ac w _ _ hr => by
    obtain ⟨hg, vs, hE, heq⟩ := ht
    rw [hE] at hy hz
    have h1 := (hy.rep hr (by simp [ho, Op.operands])).aggV
    have h2 := (hz.rep hr (by simp [ho, Op.operands])).aggV
    refine ⟨.bool (!beq a b), ?_, .v⟩
    have h3 := run_eqGuard_agg (P := P) w .neq t y z (vs a).toArray (vs b).toArray hg
    have h4 := run_neq_struct (P := P) w t (vs a).toArray (vs b).toArray
    rw [heq w a b] at h4
    simp only [Result.andThen_ok] at h4
    simp [execOp, ho, h1, h2, h3, h4]
/-! strings ranged over -/
theorem WSim.newIter {B m0 h m bl w w' d} {s : ByteArray} {p : Nat} (S : WSim B m0 h m bl w) (hB : B ≤ w.heap.size) (hfree : bl d = none) (hw : w'.heap = w.heap.push (.stringIter s p)) :
    WSim B m0 ((d, .iter s p) :: h) m (updN bl d w.heap.size (0, 0)) w' ∧ (∀ id b, bl id = some b → updN bl d w.heap.size (0, 0) id = some b) := by
  have hext : ∀ id b, bl id = some b → updN bl d w.heap.size (0, 0) id = some b := by
    intro id b e
    unfold updN; rw [if_neg]; exact e
    intro he; subst he; rw [hfree] at e; cases e
  have hold : ∀ b, b < w.heap.size → w'.heap[b]? = w.heap[b]? := by
    intro b hb; rw [hw, Array.getElem?_push, if_neg (by omega)]
  have hnew : w'.heap[w.heap.size]? = some (.stringIter s p) := by rw [hw, Array.getElem?_push, if_pos rfl]
  refine ⟨⟨?_, S.le, S.grow, ?_, ?_, ?_, ?_⟩, hext⟩
  · intro b o v e
    have := S.imm b o v e
    simp only [World.cell?, hold b (S.imm.lt e)] at this ⊢
    exact this
  · intro id l hf
    rw [find_cons] at hf
    split at hf
    · cases hf
    · rename_i hd
      rcases S.blk id l hf with ⟨h1, h2⟩ | ⟨b, n, arr', T', pre, rest, g1, g2, g3, g4, g5, g6⟩
      · exact .inl ⟨by unfold updN; rw [if_neg (Ne.symm hd)]; exact h1, h2⟩
      · exact .inr ⟨b, n, arr', T', pre, rest, hext _ _ g1, by rw [hold b (S.own id b n g1).2.1]; exact g2, g3, g4, g5.widen hext, g6⟩
  · intro id x p' hf
    rw [find_cons] at hf
    split at hf
    · rename_i hd; subst hd; cases hf; exact ⟨w.heap.size, (0, 0), by simp [updN], hnew⟩
    · obtain ⟨b, n, g1, g2⟩ := S.it id x p' hf
      exact ⟨b, n, hext _ _ g1, by rw [hold b (S.own id b n g1).2.1]; exact g2⟩
  · intro id b n g
    unfold updN at g
    split at g
    · simp at g; obtain ⟨rfl, rfl⟩ := g
      refine ⟨hB, by rw [hw, Array.size_push]; omega, fun o => ?_⟩
      cases hm : m w.heap.size o with
      | none => rfl
      | some v => have := S.imm.lt hm; omega
    · obtain ⟨g1, g2, g3⟩ := S.own id b n g
      exact ⟨g1, by rw [hw, Array.size_push]; omega, g3⟩
  · intro id id' b n n' g g'
    unfold updN at g g'
    split at g
    · split at g'
      · omega
      · simp at g; have := (S.own id' b n' g').2.1; omega
    · split at g'
      · simp at g'; have := (S.own id b n g).2.1; omega
      · exact S.inj id id' b n n' g g'
theorem AEx.range {L : LS} {t y d nm} {s : ByteArray} (hd : o.dst = some d) (ho : o.op = .range t y) (ht : P.underlying t = some .string) (hy : OpdOk L.e y (.v (.string s))) (hnm : L.f nm) :
    AEx P o L (· = ⟨(d, .ptr nm 0) :: L.e, L.s, (nm, .iter s 0) :: L.h, fun i => L.f i ∧ i ≠ nm⟩) := by
  intro N W0 m0 sa m bl a w S hdN next Q k
  have r1 := (hy.rep (o := o) (fun t _ y hf => S.env t y hf) (by simp [ho, Op.operands])).eq_v
  obtain ⟨q1, q2⟩ := S.ws.newIter (w' := w.iter s 0) (d := nm) S.below.size (S.free nm hnm) (s := s) (p := 0) rfl
  unfold Oper.wp
  rw [show (execOp a.eval o).run P w = .ok (.value (.pointer (some ⟨w.heap.size, 0, none⟩))) (w.iter s 0) by simp [execOp, ho, r1, run_range_string w t s ht], Oper.upon_value]
  refine k _ _ _ m _ rfl ⟨?_, ?_, ?_, q1, ?_, S.stk.widen q2, ?_⟩
  · simp [Act.put, hd, S.defers]
  · simp [Act.put, hd, S.size]
  · exact S.below.alloc S.below.size _
  · rw [hd]
    exact EnvRep.put (S.env.widen q2) (.ptr (n := (0, 0)) (by simp [updN])) (by rw [S.size]; exact hdN d hd)
  · rintro d' ⟨g1, g2⟩
    unfold updN; rw [if_neg g2]; exact S.free d' g1
/-- The next rune: where there is one, its place and itself. -/
theorem AEx.next {L : LS} {y d id ty} {s : ByteArray} {p : Nat} (hd : o.dst = some d) (ho : o.op = .next y true) (hy : OpdOk L.e y (.ptr id 0)) (hh : find id L.h = some (.iter s p)) (hty : ty = o.type) :
    AEx P o L fun L' => (p < s.size ∧ L' = ⟨(d, .tup [.v (.bool true), .v (.int .i64 p), .v (.int .i32 (Utf8.decode s p).1)]) :: L.e, L.s, (id, .iter s (p + (Utf8.decode s p).2)) :: L.h, L.f⟩) ∨
      (¬ p < s.size ∧ L' = ⟨(d, .tup [.v (.bool false)]) :: L.e, L.s, L.h, L.f⟩) := by
  intro N W0 m0 sa m bl a w S hdN next Q k
  have r1 := hy.rep (o := o) (fun t _ y hf => S.env t y hf) (by simp [ho, Op.operands])
  obtain ⟨b, n, hb, hg⟩ := S.ws.it id s p hh
  generalize hv : a.eval y = v at r1
  cases r1 with
  | ptr hb' =>
    rw [hb] at hb'; cases hb'
    obtain ⟨o1, o2, o3⟩ := S.ws.own id b n hb
    unfold Oper.wp
    by_cases hp : p < s.size
    · have hrun := Lib.run_next_any_at (P := P) w b s p o.type hg hp
      rw [show (execOp a.eval o).run P w = .ok (.value (.tuple #[.bool true, .int .i64 p, .int .i32 (Utf8.decode s p).1])) (w.iterAt b s (p + (Utf8.decode s p).2)) by simp [execOp, ho, hv, hrun], Oper.upon_value]
      have hheap := Lib.iterAt_heap w b s p (p + (Utf8.decode s p).2) hg
      have hother : ∀ b', b' ≠ b → (w.iterAt b s (p + (Utf8.decode s p).2)).heap[b']? = w.heap[b']? := by
        intro b' hne
        simp [World.iterAt, Array.getElem?_setIfInBounds, Ne.symm hne]
      have hsize : (w.iterAt b s (p + (Utf8.decode s p).2)).heap.size = w.heap.size := by simp [World.iterAt]
      refine k _ _ _ m bl (.inl ⟨hp, rfl⟩) ⟨?_, ?_, ?_, ⟨?_, S.ws.le, S.ws.grow, ?_, ?_, ?_, S.ws.inj⟩, ?_, S.stk, S.free⟩
      · simp [Act.put, hd, S.defers]
      · simp [Act.put, hd, S.size]
      · exact S.below.trans ⟨rfl, rfl, rfl, by rw [hsize]; exact Nat.le_refl _, fun k' hk' => hother k' (by omega)⟩
      · intro b' o' v e'
        have hne : b' ≠ b := by rintro rfl; rw [o3 o'] at e'; cases e'
        have := S.ws.imm b' o' v e'
        simp only [World.cell?, hother b' hne] at this ⊢
        exact this
      · intro id' l hf
        rw [find_cons] at hf
        split at hf
        · cases hf
        · rename_i hk
          rcases S.ws.blk id' l hf with g | ⟨b', n', arr, T, pre, rest, g1, g2, g3, g4, g5, g6⟩
          · exact .inl g
          · have hne : b' ≠ b := by rintro rfl; exact hk (S.ws.inj id id' b' n n' hb g1)
            exact .inr ⟨b', n', arr, T, pre, rest, g1, by rw [hother b' hne]; exact g2, g3, g4, g5, g6⟩
      · intro id' x p' hf
        rw [find_cons] at hf
        split at hf
        · rename_i hk; subst hk; cases hf; exact ⟨b, n, hb, hheap⟩
        · rename_i hk
          obtain ⟨b', n', g1, g2⟩ := S.ws.it id' x p' hf
          have hne : b' ≠ b := by rintro rfl; exact hk (S.ws.inj id id' b' n n' hb g1)
          exact ⟨b', n', g1, by rw [hother b' hne]; exact g2⟩
      · intro id' b' n' g
        obtain ⟨g1, g2, g3⟩ := S.ws.own id' b' n' g
        exact ⟨g1, by rw [hsize]; exact g2, g3⟩
      · rw [hd]
        exact EnvRep.put S.env (.tup (.cons .v (.cons .v (.cons .v .nil)))) (by rw [S.size]; exact hdN d hd)
    · have hrun := Lib.run_next_end_at (P := P) w b s p o.type hg hp
      rw [show (execOp a.eval o).run P w = .ok (.value (.tuple #[.bool false])) w by simp [execOp, ho, hv, hrun], Oper.upon_value]
      refine k _ _ _ m bl (.inr ⟨hp, rfl⟩) ⟨?_, ?_, S.below, S.ws, ?_, S.stk, S.free⟩
      · simp [Act.put, hd, S.defers]
      · simp [Act.put, hd, S.size]
      · rw [hd]
        exact EnvRep.put S.env (.tup (.cons .v .nil)) (by rw [S.size]; exact hdN d hd)
end
end Go.Rx
