/-
  The steps inside a region that draws its order. No conditions.
-/
import Derived.Test.YtblkmlpjhpgkjaaCxK
set_option linter.all false
namespace Go.Cx
open Go.RowKit

def reOf (e : Env) : List Nat → Env
  | [] => []
  | t :: ts => match find t e with
    | some y => (t, y) :: reOf e ts
    | none => reOf e ts

theorem reOf_mem {e : Env} : ∀ {ts : List Nat}, (∀ p ∈ reOf e ts, find p.1 e = some p.2) ∧ (∀ t ∈ ts, ∀ y, find t e = some y → (t, y) ∈ reOf e ts)
  | [] => by simp [reOf]
  | t :: ts => by
    have ih := reOf_mem (e := e) (ts := ts)
    simp only [reOf]
    cases hf : find t e with
    | none =>
      refine ⟨ih.1, fun t' ht' y hy => ?_⟩
      rcases List.mem_cons.1 ht' with rfl | ht'
      · rw [hf] at hy; cases hy
      · exact ih.2 t' ht' y hy
    | some z =>
      refine ⟨fun p hp => ?_, fun t' ht' y hy => ?_⟩
      · rcases List.mem_cons.1 hp with rfl | hp
        · exact hf
        · exact ih.1 p hp
      · rcases List.mem_cons.1 ht' with rfl | ht'
        · rw [hf] at hy; cases hy; simp
        · exact List.mem_cons_of_mem _ (ih.2 t' ht' y hy)

theorem agree_looks {ops : Array Oper} {o : Oper} {e e2 : Env} (h : ∀ p ∈ reOf e (o.looksAt ops), find p.1 e2 = some p.2) : ∀ t ∈ o.looksAt ops, ∀ y, find t e = some y → find t e2 = some y :=
  fun t ht y hy => h (t, y) (reOf_mem.2 t ht y hy)

theorem operand_looks {ops : Array Oper} {o : Oper} {t : Nat} (h : Operand.tmp t ∈ o.op.operands) : t ∈ o.looksAt ops := by
  unfold Oper.looksAt
  exact List.mem_append.2 (.inl (List.mem_filterMap.2 ⟨.tmp t, by simpa using h, rfl⟩))

theorem guard_looks {ops : Array Oper} {o : Oper} {j : Nat} {w : Bool} {s : Nat} (hg : o.guard = some (j, w)) (hj : (ops[j]?).bind (·.dst) = some s) : s ∈ o.looksAt ops := by
  unfold Oper.looksAt
  exact List.mem_append.2 (.inr (by rw [hg]; simp only [hj]; simp))

def needH (need : List (Nat × List AV)) : Hp := need.map fun p => (p.1, .cells p.2)
def nmOf (cr : Bool) (d : Nat) : List Nat := if cr then [d] else []

theorem LEx.q {P ops N o e need cr x d} (hg : o.guard = none) (q : QEx P o e need cr x) (hd : o.dst = some d) (hN : d < N) :
    LEx P ops N o ⟨reOf e (o.looksAt ops), needH need, [(d, x)], [], nmOf cr d⟩ := by
  intro e2 h f f' hre hrh hnm hf' W0 m0 m bl hh a w s next Q k
  have hw : Region.wanted o (yielded ops a.tmps) = true := by simp [Region.wanted, hg]
  rw [if_pos hw]
  have agr := agree_looks hre
  refine q W0.heap.size m0 h m bl hh a w s.ws s.below.size (fun p hp => hrh (p.1, .cells p.2) (List.mem_map.2 ⟨p, hp, rfl⟩)) (fun t ht y hf => s.env t y (agr t (operand_looks ht) y hf)) ?_ next Q ?_
  · intro hcr d' hd' j
    rw [hd] at hd'; cases hd'
    exact (s.free d (hnm d (by simp [nmOf, hcr]))).2 j
  · intro v w' m' hh' hm hb hws hx ho hr
    refine k _ _ m' bl hh' ⟨?_, ?_, Below.base s.below hb, hws, ?_, ?_⟩
    · simp [Act.put, hd, s.defers]
    · simp [Act.put, hd, s.size]
    · rw [hd]
      exact EnvRep.put (fun t y hf => ((s.env t y hf).mono hm).widen (fun _ _ e => e) hx) hr (by rw [s.size]; exact hN)
    · intro d' hdf
      obtain ⟨g1, g2⟩ := hf' d' hdf
      refine ⟨(s.free d' g1).1, fun j => ?_⟩
      rw [ho (d', j) (by
        intro hcr d2 h2
        rw [hd] at h2; cases h2
        intro he; exact g2 (by simp only [nmOf, hcr, if_true, List.mem_singleton]; exact he))]
      exact (s.free d' g1).2 j

theorem LEx.g {P ops N o e need x d j want sl t} (hg : o.guard = some (j, want)) (hj : (ops[j]?).bind (·.dst) = some sl) (hs : find sl e = some (.v (.bool t)))
    (q : (t == want) = true → QEx P o e need false x) (hd : o.dst = some d) (hN : d < N) :
    LEx P ops N o ⟨reOf e (o.looksAt ops), needH need, [(d, .opt (t == want) x)], [], []⟩ := by
  intro e2 h f f' hre hrh hnm hf' W0 m0 m bl hh a w s next Q k
  have agr := agree_looks hre
  have hv : a.tmps.getD sl undef = .bool t := (s.env sl _ (agr sl (guard_looks hg hj) _ hs)).eq_v
  have hfree : Free f' bl hh := fun d' hdf => s.free d' (hf' d' hdf).1
  by_cases ht : (t == want) = true
  · have hw : Region.wanted o (yielded ops a.tmps) = true := by simp only [Region.wanted, hg, yielded_slot hj hv]; simpa using ht
    rw [if_pos hw]
    refine q ht W0.heap.size m0 h m bl hh a w s.ws s.below.size (fun p hp => hrh (p.1, .cells p.2) (List.mem_map.2 ⟨p, hp, rfl⟩)) (fun t ht y hf => s.env t y (agr t (operand_looks ht) y hf)) (by simp) next Q ?_
    intro v w' m' hh' hm hb hws hx ho hr
    refine k _ _ m' bl hh' ⟨?_, ?_, Below.base s.below hb, hws, ?_, ?_⟩
    · simp [Act.put, hd, s.defers]
    · simp [Act.put, hd, s.size]
    · rw [hd]
      exact EnvRep.put (fun t y hf => ((s.env t y hf).mono hm).widen (fun _ _ e => e) hx) (.opt (fun _ => hr) fun h => by simp [ht] at h) (by rw [s.size]; exact hN)
    · intro d' hdf
      exact ⟨(hfree d' hdf).1, fun j => by rw [ho (d', j) (by simp)]; exact (hfree d' hdf).2 j⟩
  · have hw : ¬ Region.wanted o (yielded ops a.tmps) = true := by simp only [Region.wanted, hg, yielded_slot hj hv]; simpa using ht
    rw [if_neg hw, hd]
    refine k _ _ m bl hh ⟨?_, ?_, s.below, s.ws, ?_, hfree⟩
    · simp [Act.put, s.defers]
    · simp [Act.put, s.size]
    · exact s.env.put (.opt (fun c => absurd c ht) fun _ => rfl) (by rw [s.size]; exact hN)

theorem LEx.g2 {P ops N o e need x d j want sl c t} (hg : o.guard = some (j, want)) (hj : (ops[j]?).bind (·.dst) = some sl) (hs : find sl e = some (.opt c (.v (.bool t))))
    (q : (c && (t == want)) = true → QEx P o e need false x) (hd : o.dst = some d) (hN : d < N) :
    LEx P ops N o ⟨reOf e (o.looksAt ops), needH need, [(d, .opt (c && (t == want)) x)], [], []⟩ := by
  intro e2 h f f' hre hrh hnm hf' W0 m0 m bl hh a w s next Q k
  have agr := agree_looks hre
  have hfree : Free f' bl hh := fun d' hdf => s.free d' (hf' d' hdf).1
  have skip : (c && (t == want)) = false → next (a.put (some d) undef) w := by
    intro hcf
    refine k _ _ m bl hh ⟨?_, ?_, s.below, s.ws, ?_, hfree⟩
    · simp [Act.put, s.defers]
    · simp [Act.put, s.size]
    · exact s.env.put (.opt (fun c => absurd c (by simp [hcf])) fun _ => rfl) (by rw [s.size]; exact hN)
  obtain ⟨h1, h2⟩ := (s.env sl _ (agr sl (guard_looks hg hj) _ hs)).eq_opt
  cases hct : c with
  | false =>
    have hw : ¬ Region.wanted o (yielded ops a.tmps) = true := by simp only [Region.wanted, hg, yielded_undef hj (h2 hct)]; simp
    rw [if_neg hw, hd]
    exact skip (by simp [hct])
  | true =>
    have hv : a.tmps.getD sl undef = .bool t := (h1 hct).eq_v
    by_cases ht : (t == want) = true
    · have hcc : (c && (t == want)) = true := by simp [hct, ht]
      have hw : Region.wanted o (yielded ops a.tmps) = true := by simp only [Region.wanted, hg, yielded_slot hj hv]; simpa using ht
      rw [if_pos hw]
      refine q hcc W0.heap.size m0 h m bl hh a w s.ws s.below.size (fun p hp => hrh (p.1, .cells p.2) (List.mem_map.2 ⟨p, hp, rfl⟩)) (fun t ht y hf => s.env t y (agr t (operand_looks ht) y hf)) (by simp) next Q ?_
      intro v w' m' hh' hm hb hws hx ho hr
      refine k _ _ m' bl hh' ⟨?_, ?_, Below.base s.below hb, hws, ?_, ?_⟩
      · simp [Act.put, hd, s.defers]
      · simp [Act.put, hd, s.size]
      · rw [hd]
        exact EnvRep.put (fun t y hf => ((s.env t y hf).mono hm).widen (fun _ _ e => e) hx) (.opt (fun _ => hr) fun h => by simp [hcc] at h) (by rw [s.size]; exact hN)
      · intro d' hdf
        exact ⟨(hfree d' hdf).1, fun j => by rw [ho (d', j) (by simp)]; exact (hfree d' hdf).2 j⟩
    · have hw : ¬ Region.wanted o (yielded ops a.tmps) = true := by simp only [Region.wanted, hg, yielded_slot hj hv]; simpa using ht
      rw [if_neg hw, hd]
      exact skip (by simp at ht; simp [ht])

/-- A region that draws, in the text's order. -/
def GoD (P : Program) (ops : Array Oper) (N : Nat) (rest : List Oper) (e : Env) (h : Hp) (K : List Loc → Env → Hp → Prop) : Prop := ∃ cs e' h', TrL P ops N rest e h cs e' h' ∧ K cs e' h'

section
variable {P : Program} {ops : Array Oper} {N : Nat} {o : Oper} {rest : List Oper} {K : List Loc → Env → Hp → Prop} {e : Env} {h : Hp} {x : AV} {d : Nat}

theorem GoD.nil (k : K [] e h) : GoD P ops N [] e h K := ⟨[], e, h, .nil, k⟩
theorem GoD.cons {c : Loc} (l : LEx P ops N o c) (hre : ∀ p ∈ c.re, find p.1 e = some p.2) (hrh : ∀ p ∈ c.rh, find p.1 h = some p.2) (k : GoD P ops N rest (c.we ++ e) (c.wh ++ h) (fun cs => K (c :: cs))) :
    GoD P ops N (o :: rest) e h K :=
  let ⟨cs, e', h', t, q⟩ := k
  ⟨c :: cs, e', h', .cons l hre hrh t, q⟩

theorem GoD.q (hg : o.guard = none) (q : QEx P o e [] false x) (hd : o.dst = some d) (hN : d < N) (k : GoD P ops N rest ((d, x) :: e) h (fun cs => K (⟨reOf e (o.looksAt ops), [], [(d, x)], [], []⟩ :: cs))) : GoD P ops N (o :: rest) e h K :=
  .cons (LEx.q hg q hd hN) reOf_mem.1 (by simp [needH]) k
theorem GoD.c (hg : o.guard = none) (q : QEx P o e [] true x) (hd : o.dst = some d) (hN : d < N) (k : GoD P ops N rest ((d, x) :: e) h (fun cs => K (⟨reOf e (o.looksAt ops), [], [(d, x)], [], [d]⟩ :: cs))) : GoD P ops N (o :: rest) e h K :=
  .cons (LEx.q hg q hd hN) reOf_mem.1 (by simp [needH]) k
theorem GoD.qr {id l} (hg : o.guard = none) (hl : find id h = some (.cells l)) (q : QEx P o e [(id, l)] false x) (hd : o.dst = some d) (hN : d < N)
    (k : GoD P ops N rest ((d, x) :: e) h (fun cs => K (⟨reOf e (o.looksAt ops), [(id, .cells l)], [(d, x)], [], []⟩ :: cs))) : GoD P ops N (o :: rest) e h K :=
  .cons (LEx.q hg q hd hN) reOf_mem.1 (by simpa [needH] using hl) k
theorem GoD.g {j want s t} (hg : o.guard = some (j, want)) (hj : (ops[j]?).bind (·.dst) = some s) (hs : find s e = some (.v (.bool t))) (q : (t == want) = true → QEx P o e [] false x) (hd : o.dst = some d) (hN : d < N)
    (k : GoD P ops N rest ((d, .opt (t == want) x) :: e) h (fun cs => K (⟨reOf e (o.looksAt ops), [], [(d, .opt (t == want) x)], [], []⟩ :: cs))) : GoD P ops N (o :: rest) e h K :=
  .cons (LEx.g hg hj hs q hd hN) reOf_mem.1 (by simp [needH]) k
theorem GoD.gr {j want s t id l} (hg : o.guard = some (j, want)) (hj : (ops[j]?).bind (·.dst) = some s) (hs : find s e = some (.v (.bool t))) (hl : find id h = some (.cells l)) (q : (t == want) = true → QEx P o e [(id, l)] false x) (hd : o.dst = some d) (hN : d < N)
    (k : GoD P ops N rest ((d, .opt (t == want) x) :: e) h (fun cs => K (⟨reOf e (o.looksAt ops), [(id, .cells l)], [(d, .opt (t == want) x)], [], []⟩ :: cs))) : GoD P ops N (o :: rest) e h K :=
  .cons (LEx.g hg hj hs q hd hN) reOf_mem.1 (by simpa [needH] using hl) k
theorem GoD.g2 {j want s c t} (hg : o.guard = some (j, want)) (hj : (ops[j]?).bind (·.dst) = some s) (hs : find s e = some (.opt c (.v (.bool t)))) (q : (c && (t == want)) = true → QEx P o e [] false x) (hd : o.dst = some d) (hN : d < N)
    (k : GoD P ops N rest ((d, .opt (c && (t == want)) x) :: e) h (fun cs => K (⟨reOf e (o.looksAt ops), [], [(d, .opt (c && (t == want)) x)], [], []⟩ :: cs))) : GoD P ops N (o :: rest) e h K :=
  .cons (LEx.g2 hg hj hs q hd hN) reOf_mem.1 (by simp [needH]) k
theorem GoD.gr2 {j want s c t id l} (hg : o.guard = some (j, want)) (hj : (ops[j]?).bind (·.dst) = some s) (hs : find s e = some (.opt c (.v (.bool t)))) (hl : find id h = some (.cells l)) (q : (c && (t == want)) = true → QEx P o e [(id, l)] false x)
    (hd : o.dst = some d) (hN : d < N) (k : GoD P ops N rest ((d, .opt (c && (t == want)) x) :: e) h (fun cs => K (⟨reOf e (o.looksAt ops), [(id, .cells l)], [(d, .opt (c && (t == want)) x)], [], []⟩ :: cs))) : GoD P ops N (o :: rest) e h K :=
  .cons (LEx.g2 hg hj hs q hd hN) reOf_mem.1 (by simpa [needH] using hl) k
end

theorem Wp.drawn {P : Program} {N id : Nat} {ops : Array Oper} {Q : AExit → LS → Prop} {e : Env} {h : Hp} {f : List Nat} (f' : List Nat) (hm : P.follows .mixedOrders = true)
    (g : GoD P ops N ops.toList e h fun cs e' h' => locOkFrom [] 0 ops.toList cs = true ∧ nodupB (namesOf cs) = true ∧ (namesOf cs).all (fun d => f.contains d) = true ∧
      f'.all (fun y => f.contains y && !(namesOf cs).contains y) = true ∧ Q .normal ⟨e', h', f'⟩) : Wp P N (.region id ops true) Q ⟨e, h, f⟩ :=
  let ⟨_, _, _, t, a, b, c, d, q⟩ := g
  Wp.draw hm t a b c d q

end Go.Cx
