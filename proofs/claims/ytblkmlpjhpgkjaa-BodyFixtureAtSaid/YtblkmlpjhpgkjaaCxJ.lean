/-
  The rules as the walks use them: one short step an operation. No conditions.
-/
import Derived.Test.YtblkmlpjhpgkjaaCxI
set_option linter.all false
namespace Go.Cx
open Go.RowKit

section
variable {P : Program} {ops : Array Oper} {N : Nat} {o : Oper} {rest : List Oper} {K : LS → Prop} {e : Env} {h : Hp} {f f' : List Nat} {x : AV} {d : Nat}

/-- A quiet operation. -/
theorem GoT.q (hg : o.guard = none) (q : QEx P o e [] false x) (hd : o.dst = some d) (hN : d < N) (k : GoT P ops N rest K ⟨(d, x) :: e, h, f⟩) : GoT P ops N (o :: rest) K ⟨e, h, f⟩ := by
  refine GoT.act hg (QEx.act q (by simp) (.inl ⟨rfl, rfl⟩)) (fun d' h' => by rw [hd] at h'; cases h'; exact hN) ?_
  rw [hd]; exact k

/-- A quiet operation that reads an own block. -/
theorem GoT.qr {id l} (hg : o.guard = none) (hl : find id h = some (.cells l)) (q : QEx P o e [(id, l)] false x) (hd : o.dst = some d) (hN : d < N) (k : GoT P ops N rest K ⟨(d, x) :: e, h, f⟩) : GoT P ops N (o :: rest) K ⟨e, h, f⟩ := by
  refine GoT.act hg (QEx.act q (by simpa using hl) (.inl ⟨rfl, rfl⟩)) (fun d' h' => by rw [hd] at h'; cases h'; exact hN) ?_
  rw [hd]; exact k

/-- A quiet operation that makes a token. -/
theorem GoT.c (hg : o.guard = none) (q : QEx P o e [] true x) (hd : o.dst = some d) (hf : takeOut d f = some f') (hN : d < N) (k : GoT P ops N rest K ⟨(d, x) :: e, h, f'⟩) : GoT P ops N (o :: rest) K ⟨e, h, f⟩ := by
  refine GoT.act hg (QEx.act q (by simp) (.inr ⟨d, hd, hf⟩)) (fun d' h' => by rw [hd] at h'; cases h'; exact hN) ?_
  rw [hd]; exact k

/-- Any operation with a destination. -/
theorem GoT.a {L L' : LS} (hg : o.guard = none) (q : AEx P o L L') (hd : o.dst = some d) (hN : d < N) (k : GoT P ops N rest K L') : GoT P ops N (o :: rest) K L :=
  GoT.act hg q (fun d' h' => by rw [hd] at h'; cases h'; exact hN) k

/-- Any operation without one. -/
theorem GoT.s {L L' : LS} (hg : o.guard = none) (q : AEx P o L L') (hd : o.dst = none) (k : GoT P ops N rest K L') : GoT P ops N (o :: rest) K L :=
  GoT.act hg q (fun d' h' => by rw [hd] at h'; cases h') k

/-- A guarded quiet operation. -/
theorem GoT.g {j want s t} (hg : o.guard = some (j, want)) (hj : (ops[j]?).bind (·.dst) = some s) (hs : find s e = some (.v (.bool t)))
    (q : (t == want) = true → QEx P o e [] false x) (hd : o.dst = some d) (hN : d < N) (k : GoT P ops N rest K ⟨(d, .opt (t == want) x) :: e, h, f⟩) : GoT P ops N (o :: rest) K ⟨e, h, f⟩ :=
  GoT.guarded hg hj hs q (by simp) hd hN k

/-- A guarded quiet operation that reads an own block. -/
theorem GoT.gr {j want s t id l} (hg : o.guard = some (j, want)) (hj : (ops[j]?).bind (·.dst) = some s) (hs : find s e = some (.v (.bool t))) (hl : find id h = some (.cells l))
    (q : (t == want) = true → QEx P o e [(id, l)] false x) (hd : o.dst = some d) (hN : d < N) (k : GoT P ops N rest K ⟨(d, .opt (t == want) x) :: e, h, f⟩) : GoT P ops N (o :: rest) K ⟨e, h, f⟩ :=
  GoT.guarded hg hj hs q (by simpa using hl) hd hN k

/-- Under a guard that is itself guarded. -/
theorem GoT.g2 {j want s c t} (hg : o.guard = some (j, want)) (hj : (ops[j]?).bind (·.dst) = some s) (hs : find s e = some (.opt c (.v (.bool t))))
    (q : (c && (t == want)) = true → QEx P o e [] false x) (hd : o.dst = some d) (hN : d < N) (k : GoT P ops N rest K ⟨(d, .opt (c && (t == want)) x) :: e, h, f⟩) : GoT P ops N (o :: rest) K ⟨e, h, f⟩ :=
  GoT.guarded2 hg hj hs q (by simp) hd hN k

theorem GoT.gr2 {j want s c t id l} (hg : o.guard = some (j, want)) (hj : (ops[j]?).bind (·.dst) = some s) (hs : find s e = some (.opt c (.v (.bool t)))) (hl : find id h = some (.cells l))
    (q : (c && (t == want)) = true → QEx P o e [(id, l)] false x) (hd : o.dst = some d) (hN : d < N) (k : GoT P ops N rest K ⟨(d, .opt (c && (t == want)) x) :: e, h, f⟩) : GoT P ops N (o :: rest) K ⟨e, h, f⟩ :=
  GoT.guarded2 hg hj hs q (by simpa using hl) hd hN k

/-- A pure call whose result bears no token. -/
theorem QEx.call0 {fn : FuncId} {args : Array Operand} {tys : Array TypeId} {xs ys : List AV} {r : AV} (ho : o.op = .call { callee := .value (.func fn), args, argTypes := tys })
    (hc : ∀ (vs : Array Value) (w : World), (callFunc fn vs).run P w = .ok (.enter fn vs) w) (hx : OpdsOk P e args.toList xs) (hy : bareL xs = ys) (hr : FnR P fn ys r) (hb : r.isBare = true) :
    QEx P o e [] false r := by
  intro B m0 hp m bl hh a w hws hB _ hrd _ next Q k
  subst hy
  have h1 := hx.reps (o := o) hrd (fun y hy => by rw [ho]; simp only [Op.operands, Call.operands]; exact Array.mem_append.2 (.inr (by simpa using hy)))
  have hrun : (execOp a.eval o).run P w = .ok (.enter fn (args.map a.eval)) w := by
    simp [execOp, ho, resolve, Act.eval, invoke, hc, Deferred.ofValue]
  unfold Oper.wp
  rw [hrun, Oper.upon_enter]
  have := hr w m (args.toList.map a.eval) hws.imm h1.bare
  have ha : (args.toList.map a.eval).toArray = args.map a.eval := Array.ext' (by rw [Array.toList_map])
  rw [ha] at this
  refine this.mono ?_
  rintro en w' ⟨v, m', hr', rfl, hb', hws', hz, hrep⟩
  simp only
  have hlt : ∀ (k : Tok) s, hh k = some s → s.1 < w.heap.size := by
    intro k s hs
    obtain ⟨b, f', t⟩ := s
    obtain ⟨-, ⟨arr, T, hh1, -⟩, -⟩ := hws.spare k b f' t hs
    rcases Nat.lt_or_ge b w.heap.size with h | h
    · exact h
    · simp [Array.getElem?_eq_none h] at hh1
  refine k v w' m' hh hws'.le hb' ⟨hws'.imm, hws.le.trans hws'.le, ?_, ?_, ?_, ?_, hws.inj, ?_⟩ (fun _ _ e => e) (fun _ _ => rfl) ?_
  · intro b o' v' e'
    rcases hws'.grow b o' v' e' with h | h
    · exact hws.grow b o' v' h
    · exact .inr (Nat.le_trans hB h)
  · intro id l hf
    obtain ⟨b, arr, T, g1, g2, g3, g4⟩ := hws.blk id l hf
    exact ⟨b, arr, T, g1, by rw [hb'.block b (hws.own id b g1).2.1]; exact g2, g3.mono hws'.le, g4⟩
  · intro id s p hf
    obtain ⟨b, g1, g2⟩ := hws.it id s p hf
    exact ⟨b, g1, by rw [hb'.block b (hws.own id b g1).2.1]; exact g2⟩
  · intro id b g
    obtain ⟨g1, g2, g3⟩ := hws.own id b g
    refine ⟨g1, Nat.lt_of_lt_of_le g2 hb'.size, fun o' => ?_⟩
    cases hm' : m' b o' with
    | none => rfl
    | some v' =>
      rcases hws'.grow b o' v' hm' with h | h
      · rw [g3] at h; cases h
      · omega
  · intro t b f' top hs
    obtain ⟨g1, ⟨arr, T, g2, g2'⟩, g3, g4, g5⟩ := hws.spare _ _ _ _ hs
    have hbl := hlt t _ hs
    refine ⟨g1, ⟨arr, T, by rw [hb'.block b hbl]; exact g2, g2'⟩, fun o' ho' => ?_, g4, g5⟩
    cases hm' : m' b o' with
    | none => rfl
    | some v' =>
      rcases hws'.grow b o' v' hm' with h | h
      · rw [g3 o' ho'] at h; cases h
      · simp only at hbl; omega
  · have := hrep.bare (bl' := bl) (hh' := hh)
    rwa [AV.bare, bare_of_isBare hb] at this

theorem and_l {a b : Bool} (h : (a && b) = true) : a = true := by cases a <;> simp_all
theorem and_r {a b : Bool} (h : (a && b) = true) : b = true := by cases b <;> simp_all
theorem and_i {a b : Bool} (h : a = true) (k : b = true) : (a && b) = true := by simp [h, k]
theorem beq_t {t : Bool} (h : t = true) : (t == true) = true := by simp [h]
theorem beq_f {t : Bool} (h : t = false) : (t == false) = true := by simp [h]

end
end Go.Cx
