/-
  Something appended to a slice without spare capacity: a block of the call's own. Conditions: those named in each rule.
-/
import Derived.Test.YtdknhngjfoaphaaGreatRzZ
set_option linter.all false
namespace Go.Rx
open Go.RowKit
section
variable {P : Program} {o : Oper} {e : Env}
theorem LEx.appC {ops : Array Oper} {N : Nat} {t tz y z E sz by_ l l2 d nm need} (hg : o.guard = none) (hd : o.dst = some d) (hN : d < N) (ho : o.op = .call { callee := .builtin .append, args := #[y, z], argTypes := #[t, tz] }) (ht : ElemT P t E sz by_)
    (hy : OpdOk e y (.sl true sz l)) (hz : SrcOk P o e need sz tz z l2) (hpos : 0 < l2.length) (hlen : (l.length + l2.length) * by_ ≤ 140737488355328) (h63 : l.length + l2.length ≤ 9223372036854775807) :
    LEx P ops N o ⟨reOf e (o.looksAt ops), needH need, [(d, .rw nm sz)], [(nm, .cells ((l ++ l2).flatMap AV.cells))], [nm]⟩ := by
  refine .ofA hg (fun d' h' => by rw [hd] at h'; cases h'; exact hN) ?_
  intro e2 s h f f' hre hrh hnm hf' N W0 m0 sa m bl a w S hdN next Q k
  have hR : Reads o e m bl a := fun t ht y hy => S.env t y (agree_looks hre t (operand_looks ht) y hy)
  obtain ⟨ad, n, cap, cs, hv, hn1, hc, el, reps, one, emp, hcap, at_⟩ := sl_cells (hy.rep hR (by simp [ho, Op.operands, Call.operands]))
  obtain rfl := hcap rfl
  subst hn1
  obtain ⟨cs2, src, reps2, el2⟩ := hz _ _ _ m bl a w S.ws (needH_mem.1 hrh) hR
  obtain ⟨i, zv, hi1, hi2, hi3, hi4, hi5, hi6⟩ := ht.info
  have hfree : bl nm = none := S.free nm (hnm nm (by simp))
  have hlen1 : cs.length = l.length * sz := by rw [← reps.length, flat_len el]
  have oneA : ∀ c ∈ cs ++ cs2, oneCell c = true := by intro x hx; rcases List.mem_append.1 hx with h | h <;> first | exact one x h | exact src.one x h
  have repsA : Reps m noNames ((l ++ l2).flatMap AV.cells) (cs ++ cs2) := by rw [List.flatMap_append]; exact reps.append reps2
  unfold Oper.wp
  have hold : (Builtin.firstCells i.size l.length (.slice ad l.length l.length)).run P w.drew = .ok cs.toArray w.drew := by
    cases ad with
    | none =>
      obtain ⟨rfl, -⟩ := emp rfl
      have : cs = [] := List.eq_nil_of_length_eq_zero (by simpa using hlen1)
      subst this
      exact run_firstCells_none (P := P) w.drew _ _ _ _
    | some a1 =>
      obtain ⟨q1, q2⟩ := at_ a1 rfl
      exact run_firstCells_some (P := P) w.drew i.size l.length a1 _ _ cs (by rw [hi3]; exact hlen1) (by simpa using cells_at S.ws.imm q1 q2)
  have hrun := run_append_grow_src (P := P) w t tz o.type E i zv ht.under hi1 hi2 ad l.length l.length cs hold (a.eval z) l2.length cs2 (by rw [hi3]; exact src) (by omega) (by omega)
    (by rw [hi4]; exact growslice_fits (by omega) hlen)
  rw [run_append2 ho (v := _) (w' := _) (by rw [hv]; exact hrun), Oper.upon_value]
  generalize hcap2 : grownCap w (l.length + l2.length) l.length E = cap'
  have hge : l.length + l2.length ≤ cap' := by rw [← hcap2]; exact grownCap_ge w _ _ E
  have hzs : (Builtin.zeroCells zv.cells (cap' - (l.length + l2.length))).size = (cap' - (l.length + l2.length)) * sz := by rw [size_zeroCells, hi5]
  have hbare : Reps m bl ((l ++ l2).flatMap AV.cells) (cs ++ cs2) := repsA.widen (by simp [noNames])
  have hcl : (cs ++ cs2).length = (l.length + l2.length) * sz := by rw [List.length_append, hlen1, src.newsLen, Nat.add_mul]
  have hsz : ((cs ++ cs2).toArray ++ Builtin.zeroCells zv.cells (cap' - (l.length + l2.length))).size = cap' * sz := by
    rw [Array.size_append, hzs, List.size_toArray, hcl, ← Nat.add_mul]; congr 1; omega
  obtain ⟨q1, q2⟩ := S.ws.newOwn (w' := w.drew.alloc (.cells ((cs ++ cs2).toArray ++ Builtin.zeroCells zv.cells (cap' - (l.length + l2.length))) E)) (d := nm) (arr := (cs ++ cs2).toArray ++ Builtin.zeroCells zv.cells (cap' - (l.length + l2.length))) (T := E)
    (Z := (l ++ l2).flatMap AV.cells) (pre := cs ++ cs2) S.below.size hfree rfl (by rw [Array.toList_append]) hbare oneA
  rw [hsz] at q1 q2
  refine k _ _ _ m _ rfl ⟨?_, ?_, ((S.below.drew).alloc S.below.size _), q1, ?_, S.stk.widen q2, ?_⟩
  · simp [Act.put, hd, S.defers]
  · simp [Act.put, hd, S.size]
  · rw [hd]
    exact EnvRep.put (S.env.widen q2) (.rw (b := w.heap.size) (n := (cap' * sz, (cs ++ cs2).length)) (by simp [updN]) hcl.symm hge (Nat.le_refl _)) (by rw [S.size]; exact hdN d hd)
  · intro d' hd'
    obtain ⟨g1, g2⟩ := hf' d' hd'
    unfold updN; rw [if_neg (by simpa using g2)]; exact S.free d' g1
end
section
variable {P : Program} {tb : Tb} {ρ : Type} {cx : Ctx P tb}
def lAppO (cx : Ctx P tb) (N : Nat) (ops : Array Oper) (L : SLS tb) (gs : List Nat) (o : Oper) (c : Call) (k : SLS tb → List Nat → KL → Option ρ) : Option ρ :=
  got o.dst fun d => got (args2 c) fun a => got (types2 c) fun t => got (elemOf P tb t.1) fun p => got (opd L [] a.1) fun x => tst (Nat.ble 1 p.2.2) <| srcK P L p.1 t.2 a.2 fun l2 need => match x with
  | .sl true E' l => ifE E' p.1 fun h => Chk (0 < l2.length ∧ (l.length + l2.length) * p.2.2 ≤ 140737488355328) <| Let ((h ▸ l) ++ l2) fun l' => putN N gs L d (.rw L.nx p.1) (.arr p.1 l') fun L' => k L' gs ⟨o.looksAt ops, need, [d], [L.nx], [L.nx]⟩
  | _ => none
theorem lAppO_ok {N ops} {L : SLS tb} {gs o c} {k : SLS tb → List Nat → KL → Option ρ} {r} (hi : RI gs L.e) (hg : o.guard = none) (ho : o.op = .call c) (hb : c.callee = .builtin .append) (h : lAppO cx N ops L gs o c k = some r) : LOk P N ops o L k r := by
  unfold lAppO at h
  obtain ⟨d, hd, h⟩ := got_e h
  obtain ⟨⟨y, z⟩, ha, h⟩ := got_e h
  obtain ⟨⟨t, tz⟩, ht, h⟩ := got_e h
  obtain ⟨⟨E, E0, by_⟩, hp, h⟩ := got_e h
  obtain ⟨x, hx, h⟩ := got_e h
  obtain ⟨hby, h⟩ := tst_e h
  have ho : o.op = .call { callee := .builtin .append, args := #[y, z], argTypes := #[t, tz] } := by
    rw [ho]
    obtain ⟨c1, c2, c3⟩ := c
    have h1 := args2_e ha
    have h2 := types2_e ht
    simp only at h1 h2 hb
    rw [h1, h2, hb]
  have hET := elemOf_e hp
  have hby2 : 1 ≤ by_ := Nat.le_of_ble_eq_true hby
  have hy := opd_ok (Gu.nil hi.inv) hx
  obtain ⟨l2, need, h, hsrc, hnd⟩ := srcK_ok (o := o) cx hi.inv (by rw [ho]; simp [Op.operands, Call.operands]) h
  simp only at h hET hsrc
  split at h
  · rename_i E' l _ _
    obtain ⟨hE, h⟩ := ifE_e h
    subst hE
    obtain ⟨⟨hpos, hc⟩, h⟩ := Chk_e h
    have h := Let_e h
    refine putN_ok (rh := needH (needAV L need)) hi rfl (fun hN => ?_) (needH_mem.2 needAV_mem) needH_keys rfl rfl rfl rfl h
    have key := LEx.appC (ops := ops) (N := N) (nm := L.nx) hg hd hN ho hET hy hsrc (by rw [List.length_map]; exact hpos) (by rw [List.length_map, List.length_map]; exact hc) (by rw [List.length_map, List.length_map]; exact len63 hby2 hc)
    rw [← List.map_append] at key
    exact key
  · cases h
end
end Go.Rx
