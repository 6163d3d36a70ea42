/-
  Stores and new blocks inside a region that draws its order; strings cut and appended; whether a slice is nil. No conditions.
-/
import Derived.Test.YtblkmlpjhpgkjaaCxU
import Derived.Test.YtblkmlpjhpgkjaaCxQ
set_option linter.all false
namespace Go.Cx
open Go.RowKit

theorem OpdOk.agree {P : Program} {e e2 : Env} {ty x y} (h : OpdOk P e ty x y) (ha : ∀ s, x = .tmp s → ∀ z, find s e = some z → find s e2 = some z) : OpdOk P e2 ty x y := by
  induction h with
  | tmp hf => exact .tmp (ha _ rfl _ hf)
  | opt _ hc ih => exact .opt (ih ha) hc
  | con => exact .con
  | fn => exact .fn
  | drop _ ih => exact .drop (ih ha)
  | nil => exact .nil

theorem LEx.ofA {P : Program} {ops : Array Oper} {N : Nat} {o : Oper} {c : Loc} (hg : o.guard = none) (hd : ∀ d, o.dst = some d → d < N)
    (H : ∀ (e2 : Env) (h : Hp) (f f' : List Nat), (∀ p ∈ c.re, find p.1 e2 = some p.2) → (∀ p ∈ c.rh, find p.1 h = some p.2) → (∀ d ∈ c.nm, d ∈ f) → (∀ y ∈ f', y ∈ f ∧ y ∉ c.nm) →
      AEx P o ⟨e2, h, f⟩ ⟨c.we ++ e2, c.wh ++ h, f'⟩) : LEx P ops N o c := by
  intro e2 h f f' hre hrh hnm hf' W0 m0 m bl hh a w s next Q k
  have hw : Region.wanted o (yielded ops a.tmps) = true := by simp [Region.wanted, hg]
  rw [if_pos hw]
  exact H e2 h f f' hre hrh hnm hf' N W0 m0 m bl hh a w s hd next Q k

section
variable {P : Program} {ops : Array Oper} {N : Nat} {o : Oper} {rest : List Oper} {K : List Loc → Env → Hp → Prop} {e : Env} {h : Hp} {d : Nat}

theorem AEx.weakF {L : LS} {e' h' f' f''} (q : AEx P o L ⟨e', h', f'⟩) (hf : ∀ y ∈ f'', y ∈ f') : AEx P o L ⟨e', h', f''⟩ := by
  intro N W0 m0 m bl hh a w s hd next Q k
  exact q N W0 m0 m bl hh a w s hd next Q fun a' w' m' bl' hh' s' => k _ _ _ _ _ (s'.weaken ⟨fun _ _ h => h, fun _ _ h => h, hf⟩)

theorem GoD.s {t y z id off l x sz Z} (hg : o.guard = none) (ho : o.op = .store t y z) (hdst : o.dst = none) (hs : tSz P t = some sz) (hy : OpdOk P e 0 y (.ptr id off)) (hh : find id h = some (.cells l))
    (hz : OpdOk P e t z x) (hx : x.solid = true) (hl : x.cells.length = sz) (hfit : off + sz ≤ l.length) (hZ : l.take off ++ x.cells ++ l.drop (off + sz) = Z)
    (k : GoD P ops N rest e ((id, .cells Z) :: h) (fun cs => K (⟨reOf e (o.looksAt ops), [(id, .cells l)], [], [(id, .cells Z)], []⟩ :: cs))) : GoD P ops N (o :: rest) e h K := by
  refine .cons (c := ⟨reOf e (o.looksAt ops), [(id, .cells l)], [], [(id, .cells Z)], []⟩) (LEx.ofA hg (by rw [hdst]; simp) ?_) reOf_mem.1 (by simpa using hh) k
  intro e2 h2 f f' hre hrh _ hf'
  have agr := agree_looks (ops := ops) (o := o) hre
  have h1 : ∀ q, q ∈ o.op.operands → ∀ s, q = Operand.tmp s → ∀ z, find s e = some z → find s e2 = some z := by
    rintro q hq s rfl z hz; exact agr s (operand_looks hq) z hz
  refine AEx.weakF (AEx.sto ho hdst hs (hy.agree (h1 y (by simp [ho, Op.operands]))) (hrh (id, .cells l) (by simp)) (hz.agree (h1 z (by simp [ho, Op.operands]))) hx hl hfit hZ) (fun y hy => (hf' y hy).1)

theorem GoD.al {T Z} (hg : o.guard = none) (ho : o.op = .alloc T) (hz : ZeroT P T Z) (hd : o.dst = some d) (hN : d < N)
    (k : GoD P ops N rest ((d, .ptr d 0) :: e) ((d, .cells Z) :: h) (fun cs => K (⟨reOf e (o.looksAt ops), [], [(d, .ptr d 0)], [(d, .cells Z)], [d]⟩ :: cs))) : GoD P ops N (o :: rest) e h K := by
  refine .cons (c := ⟨reOf e (o.looksAt ops), [], [(d, .ptr d 0)], [(d, .cells Z)], [d]⟩) (LEx.ofA hg (by rw [hd]; intro d' h'; cases h'; exact hN) ?_) reOf_mem.1 (by simp) k
  intro e2 h2 f f' hre hrh hnm hf'
  obtain ⟨zs, hz1, hz2, h1⟩ := hz
  refine .newOwn hd ⟨hnm d (by simp), fun y hy => ⟨(hf' y hy).1, by simpa using (hf' y hy).2⟩⟩ fun m bl hh a w _ => ?_
  obtain ⟨z, q1, q2⟩ := run_zero_of hz1 w
  refine ⟨z.cells, T, ?_, by rw [q2]; exact hz2.reps, by rw [q2]; simpa using h1⟩
  simp [execOp, ho, Instr.alloc, q1, newVar, newRow]

theorem GoD.bx {E y x Z} (hg : o.guard = none) (ho : o.op = .box E y) (hy : OpdOk P e E y x) (hs : x.solid = true) (hd : o.dst = some d) (hN : d < N) (hZ : x.cells = Z)
    (k : GoD P ops N rest ((d, .ptr d 0) :: e) ((d, .cells Z) :: h) (fun cs => K (⟨reOf e (o.looksAt ops), [], [(d, .ptr d 0)], [(d, .cells Z)], [d]⟩ :: cs))) : GoD P ops N (o :: rest) e h K := by
  subst hZ
  refine .cons (c := ⟨reOf e (o.looksAt ops), [], [(d, .ptr d 0)], [(d, .cells x.cells)], [d]⟩) (LEx.ofA hg (by rw [hd]; intro d' h'; cases h'; exact hN) ?_) reOf_mem.1 (by simp) k
  intro e2 h2 f f' hre hrh hnm hf'
  have agr := agree_looks (ops := ops) (o := o) hre
  have hy2 : OpdOk P e2 E y x := hy.agree (by rintro s rfl z hz; exact agr s (operand_looks (by simp [ho, Op.operands])) z hz)
  refine .newOwn hd ⟨hnm d (by simp), fun y hy => ⟨(hf' y hy).1, by simpa using (hf' y hy).2⟩⟩ fun m bl hh a w hr => ?_
  obtain ⟨g1, g2⟩ := (hy2.rep hr (by simp [ho, Op.operands])).cells hs
  exact ⟨(a.eval y).cells, E, by simp [execOp, ho, Instr.box, newVar, newRow], g1, g2⟩
end

section
variable {P : Program} {o : Oper} {e : Env} {s : List UInt8}
theorem str_extract (s : List UInt8) (a b : Nat) : (⟨s.toArray⟩ : ByteArray).extract a b = ⟨((s.drop a).take (b - a)).toArray⟩ := by
  apply ByteArray.ext
  simp [ByteArray.data_extract]

theorem QEx.slStr {t y lo hi a b} (ho : o.op = .slice t y lo hi none) (ht : P.underlying t = some .string) (hy : OpdOk P e t y (strAV s))
    (hlo : BoundOk P e lo 0 a) (hhi : BoundOk P e hi s.length b) (hab : a ≤ b ∧ b ≤ s.length) : QEx P o e [] false (strAV ((s.drop a).take (b - a))) :=
  .pure fun _ _ _ m bl hh ac w hws _ hr => by
    have h1 := (hy.rep hr (by simp [ho, Op.operands])).eq_v
    have hsz : (⟨s.toArray⟩ : ByteArray).size = s.length := by simp [ByteArray.size]
    have e1 : (Instr.sliceBounds false s.length s.length (lo.map ac.eval) (hi.map ac.eval) none).run P w = .ok (a, b, s.length) w := by
      cases hlo with
      | none =>
        cases hhi with
        | none => simp [Instr.sliceBounds]
        | some h2 h3 =>
          have := (h2.rep hr (by simp [ho, Op.operands])).eq_v
          rename_i k i
          have hi' : i ≤ (s.length : Int) := by omega
          simp [Instr.sliceBounds, this, Instr.sliceBound, asIntOf, h3, hi']
      | some g2 g3 =>
        have hg := (g2.rep hr (by simp [ho, Op.operands])).eq_v
        rename_i gk gi
        cases hhi with
        | none =>
          have hi' : gi ≤ (s.length : Int) := by omega
          simp [Instr.sliceBounds, hg, Instr.sliceBound, asIntOf, g3, hi']
        | some h2 h3 =>
          have := (h2.rep hr (by simp [ho, Op.operands])).eq_v
          rename_i k i
          have hi' : i ≤ (s.length : Int) := by omega
          have hg' : gi ≤ i := by omega
          have hm : max i 0 = i := by omega
          simp [Instr.sliceBounds, this, hg, Instr.sliceBound, asIntOf, h3, hi', g3, hg', hm]
    refine ⟨.string ⟨((s.drop a).take (b - a)).toArray⟩, ?_, .v⟩
    rw [← str_extract]
    simp only [execOp, ho, h1, Instr.sliceAt, Sem.run_bind, run_underlying_of ht, Result.andThen_ok, Instr.slice, Option.map_none, hsz, e1, Sem.run_pure, Option.isSome_none, Bool.false_eq_true, if_false]
theorem sl_lo {a : Int} {n : Nat} (h : 0 ≤ a ∧ a ≤ (n : Int)) : a.toNat ≤ n ∧ n ≤ n := by omega
theorem sl_hi {a : Int} {n : Nat} (h : 0 ≤ a ∧ a ≤ (n : Int)) : 0 ≤ a.toNat ∧ a.toNat ≤ n := by omega
theorem sl_p {a b : Int} {n : Nat} (h : 0 ≤ a ∧ a ≤ b ∧ b ≤ (n : Int)) : 0 ≤ b := by omega
theorem sl_m {a b : Int} {n : Nat} (h : 0 ≤ a ∧ a ≤ b ∧ b ≤ (n : Int)) : a.toNat ≤ b.toNat ∧ b.toNat ≤ n := by omega
theorem sl_loE (s : List UInt8) (a : Nat) : strAV ((s.drop a).take (s.length - a)) = strAV (s.drop a) := by rw [List.take_of_length_le (by simp)]
theorem sl_hiE (s : List UInt8) (b : Nat) : strAV ((s.drop 0).take (b - 0)) = strAV (s.take b) := by simp
end

/-! closures -/

/-- The closure of function fid with the captured values caps computes f. -/
def CloR (P : Program) (fid : Nat) (caps : List AV) {α β : Type} (A : α → List AV) (E : β → AV) (f : α → Option β) : Prop :=
  (∀ (vs : Array Value) (w : World), (callFunc fid vs).run P w = .ok (.enter fid vs) w) ∧ ∀ x r, f x = some r → FnR P fid (A x ++ caps) (E r)

theorem Reps.bareR {m bl hh l vs} (h : Reps m bl hh l vs) (hb : allBare l = true) {bl' hh'} : Reps m bl' hh' l vs := by
  have := h.bare (bl' := bl') (hh' := hh')
  rwa [bareL, bareL_of_allBare hb] at this

section
variable {P : Program} {o : Oper} {e : Env}

/-- Runs a pure call, whatever way it was entered. -/
theorem QEx.enter {need} {fn : FuncId} {ys : List AV} {r : AV} (H : ∀ (m : Mem) (bl : Names) (hh : Spare) (a : Act) (w : World), Reads o e m bl hh a → ∃ vs : List Value, (execOp a.eval o).run P w = .ok (.enter fn vs.toArray) w ∧ Reps m noNames noSpare ys vs)
    (hr : FnR P fn ys r) (hb : r.isBare = true) : QEx P o e need false r := by
  intro B m0 hp m bl hh a w hws hB _ hrd _ next Q k
  obtain ⟨vs, hrun, h1⟩ := H m bl hh a w hrd
  unfold Oper.wp
  rw [hrun, Oper.upon_enter]
  refine (hr w m vs hws.imm h1).mono ?_
  rintro en w' ⟨v, m', hr', rfl, hb', hws', hz, hrep⟩
  simp only
  have hlt : ∀ (k : Tok) s, hh k = some s → s.1 < w.heap.size := by
    intro k s hs
    obtain ⟨b, f', t⟩ := s
    obtain ⟨-, ⟨arr, T, hh1, -⟩, -⟩ := hws.spare k b f' t hs
    rcases Nat.lt_or_ge b w.heap.size with h | h
    · exact h
    · simp [Array.getElem?_eq_none h] at hh1
  refine k v w' m' hh hws'.le hb' ⟨hws'.imm, hws.le.trans hws'.le, ?_, ?_, ?_, ?_, hws.inj, ?_⟩ (fun _ _ e => e) (fun _ _ => rfl) ?_
  · intro b o' v' e'
    rcases hws'.grow b o' v' e' with h | h
    · exact hws.grow b o' v' h
    · exact .inr (Nat.le_trans hB h)
  · intro id l hf
    obtain ⟨b, arr, T, g1, g2, g3, g4⟩ := hws.blk id l hf
    exact ⟨b, arr, T, g1, by rw [hb'.block b (hws.own id b g1).2.1]; exact g2, g3.mono hws'.le, g4⟩
  · intro id s p hf
    obtain ⟨b, g1, g2⟩ := hws.it id s p hf
    exact ⟨b, g1, by rw [hb'.block b (hws.own id b g1).2.1]; exact g2⟩
  · intro id b g
    obtain ⟨g1, g2, g3⟩ := hws.own id b g
    refine ⟨g1, Nat.lt_of_lt_of_le g2 hb'.size, fun o' => ?_⟩
    cases hm' : m' b o' with
    | none => rfl
    | some v' =>
      rcases hws'.grow b o' v' hm' with h | h
      · rw [g3] at h; cases h
      · omega
  · intro t b f' top hs
    obtain ⟨g1, ⟨arr, T, g2, g2'⟩, g3, g4, g5⟩ := hws.spare _ _ _ _ hs
    have hbl := hlt t _ hs
    refine ⟨g1, ⟨arr, T, by rw [hb'.block b hbl]; exact g2, g2'⟩, fun o' ho' => ?_, g4, g5⟩
    cases hm' : m' b o' with
    | none => rfl
    | some v' =>
      rcases hws'.grow b o' v' hm' with h | h
      · rw [g3 o' ho'] at h; cases h
      · simp only at hbl; omega
  · have := hrep.bare (bl' := bl) (hh' := hh)
    rwa [AV.bare, bare_of_isBare hb] at this

/-- A call of a closure. -/
theorem QEx.calC {α β : Type} {A : α → List AV} {E : β → AV} {g : α → Option β} {fid : Nat} {caps : List AV} {y : Operand} {args : Array Operand} {tys : Array TypeId} {xs : List AV} (x : α) (r : β) (cf : CloR P fid caps A E g)
    (ho : o.op = .call { callee := .value y, args, argTypes := tys }) (hy : OpdOk P e 0 y (.clo fid caps)) (hx : OpdsOk P e args.toList xs) (hxs : bareL xs = A x) (hr : g x = some r) (hb : (E r).isBare = true) : QEx P o e [] false (E r) := by
  refine .enter (fn := fid) (ys := A x ++ caps) (fun m bl hh a w hrd => ?_) (cf.2 x r hr) hb
  have h1 := hx.reps (o := o) hrd (fun y hy => by rw [ho]; simp only [Op.operands, Call.operands]; exact Array.mem_append.2 (.inr (by simpa using hy)))
  have h2 := hy.rep hrd (by rw [ho]; simp [Op.operands, Call.operands])
  generalize hv : a.eval y = v at h2
  cases h2 with
  | clo h3 =>
    rename_i cs
    refine ⟨args.toList.map a.eval ++ cs, ?_, ?_⟩
    · have ha : (args.toList.map a.eval ++ cs).toArray = args.map a.eval ++ cs.toArray := by
        rw [← List.append_toArray]; congr 1; exact Array.ext' (by rw [Array.toList_map])
      rw [ha]
      simp [execOp, ho, resolve, hv, Deferred.ofValue, invoke, cf.1]
    · rw [← hxs]; exact h1.bare.append h3

theorem QEx.mkF {f : FuncId} {fi : Array Operand} {ca : Array Operand} {caps ys : List AV} (ho : o.op = .makeFunc (.func f) fi ca) (hfi : fi = #[]) (hx : OpdsOk P e ca.toList caps) (hc : bareL caps = ys) : QEx P o e [] false (.clo f ys) :=
  .pure fun _ _ _ m bl hh a w _ _ hr => by
    subst hfi hc
    have h1 := hx.reps (o := o) hr (fun y hy => by rw [ho]; simp only [Op.operands]; simpa using hy)
    refine ⟨.func (.func f) #[] (ca.toList.map a.eval).toArray, ?_, .clo h1.bare⟩
    have ha : (ca.toList.map a.eval).toArray = ca.map a.eval := Array.ext' (by rw [Array.toList_map])
    rw [ha]
    simp [execOp, ho, Instr.makeFunc]
end

theorem run_equalIn_nilslice {P : Program} {t E : TypeId} (ht : P.underlying t = some (.slice E)) (d : Nat) (ad : Option Addr) (n c : Nat) (w : World) : (Op.equalIn (d + 1) t (.slice ad n c) (.slice none 0 0)).run P w = .ok ad.isNone w := by
  cases ad <;> simp [Op.equalIn, run_underlying_of ht]
theorem run_eql_slice {P : Program} (t : TypeId) (ad : Option Addr) (n c : Nat) (w : World) : (binOp .eql t (.slice ad n c) (.slice none 0 0)).run P w = ((Op.equalIn 10000 t (.slice ad n c) (.slice none 0 0)).run P w).andThen fun b w' => .ok (.bool b) w' := by
  simp only [binOp]
  simp [Op.equal, Op.maxDepth]
theorem run_eqGuard_slice {P : Program} (op : BinOp) (t : TypeId) (x y : Operand) (ad : Option Addr) (n c : Nat) (v : Value) (w : World) : (eqGuard op t x y (.slice ad n c) v).run P w = .ok () w := by
  cases op <;> simp [eqGuard]
/-- Is a slice nil? If so, it is empty. -/
theorem GoT.nilq {P : Program} {ops : Array Oper} {N : Nat} {o : Oper} {rest : List Oper} {K : LS → Prop} {e : Env} {h : Hp} {f : List Nat} {d : Nat} {t yt E : TypeId} {y : Operand} {tk sz l}
    (hg : o.guard = none) (ho : o.op = .binOp .eql t y (.const (.slice none 0 0)) yt) (ht : P.underlying t = some (.slice E)) (hy : OpdOk P e t y (.sl tk sz l)) (hd : o.dst = some d) (hN : d < N)
    (k : ∀ b : Bool, (b = true → l = []) → GoT P ops N rest K ⟨(d, boolAV b) :: e, h, f⟩) : GoT P ops N (o :: rest) K ⟨e, h, f⟩ := by
  intro W0 m0 m bl hh a w s Q hq
  have h1 := hy.rep (o := o) (fun t _ y hf => s.env t y hf) (by simp [ho, Op.operands])
  have key : ∃ b : Bool, (b = true → l = []) ∧ (execOp a.eval o).run P w = .ok (.value (.bool b)) w := by
    have he : ∀ v : Value, a.eval y = v → (∀ n c ad, v = .slice ad n c → (execOp a.eval o).run P w = .ok (.value (.bool ad.isNone)) w) := by
      rintro v hv n c ad rfl
      have hz : a.eval (.const (.slice none 0 0)) = .slice none 0 0 := rfl
      have h4 := run_eql_slice (P := P) t ad n c w
      rw [run_equalIn_nilslice ht 9999 ad n c w] at h4
      simp only [Result.andThen_ok] at h4
      simp only [execOp, ho, hv, hz, Sem.run_bind, run_eqGuard_slice, Result.andThen_ok, h4, Sem.run_pure]
    generalize hv : a.eval y = v at h1
    cases h1 with
    | slnil => exact ⟨true, fun _ => rfl, he _ hv 0 0 none rfl⟩
    | sl => exact ⟨false, (fun h => by simp at h), he _ hv _ _ (some _) rfl⟩
  obtain ⟨b, hb, hrun⟩ := key
  have q : QEx P o e [] false (boolAV b) → True := fun _ => trivial
  simp only [wpList, Region.wanted, hg, if_true]
  refine .inl ?_
  unfold Oper.wp
  rw [hrun, Oper.upon_value]
  refine k b hb W0 m0 m bl hh _ w ⟨?_, ?_, s.below, s.ws, ?_, s.free⟩ Q hq
  · simp [Act.put, hd, s.defers]
  · simp [Act.put, hd, s.size]
  · rw [hd]; exact s.env.put .v (by rw [s.size]; exact hN)

/-- An own block is written no more: its cells are immutable memory from here on; ts: the slots that point to its start. -/
theorem Wp.freeze {P : Program} {N : Nat} {c : Code} {Q : AExit → LS → Prop} {e : Env} {h : Hp} {f : List Nat} (id : Nat) (ts : List Nat) (l : List AV) (hl : find id h = some (.cells l)) (hb : allBare l = true)
    (ht : (ts.all fun t => match find t e with | some (.ptr i 0) => i == id | _ => false) = true)
    (k : Wp P N c Q ⟨(ts.map fun t => (t, AV.cptr l)) ++ (LS.purge [id] ⟨e, h, f⟩).e, (LS.purge [id] ⟨e, h, f⟩).h, f⟩) : Wp P N c Q ⟨e, h, f⟩ := by
  intro W0 m0 m bl hh a w s Qc hc
  obtain ⟨b, arr, T, hbl, hg, hr, h1⟩ := s.ws.blk id l hl
  obtain ⟨o1, o2, o3⟩ := s.ws.own id b hbl
  have s1 := s.back' (LS.purge_back [id] ⟨e, h, f⟩)
  let m2 : Mem := fun b' o => if b' = b then arr.toList[o]? else m b' o
  have hle : Mem.le m m2 := by
    intro b' o v hv
    show (if _ then _ else _) = some v
    rw [if_neg]
    · exact hv
    · rintro rfl; rw [o3 o] at hv; cases hv
  have hbl1 : ∀ i b', purgeN [id] bl i = some b' → bl i = some b' ∧ i ≠ id := by
    intro i b' hx
    unfold purgeN at hx
    split at hx
    · cases hx
    · rename_i hn; exact ⟨hx, fun he => hn (by simp [he])⟩
  have hne : ∀ i b', purgeN [id] bl i = some b' → b' ≠ b := by
    intro i b' hx he
    obtain ⟨g1, g2⟩ := hbl1 i b' hx
    subst he
    exact g2 (s.ws.inj i id b' g1 hbl)
  refine k W0 m0 m2 (purgeN [id] bl) (purgeS [id] hh) a w ⟨s1.defers, s1.size, s1.below, ⟨?_, s1.ws.le.trans hle, ?_, ?_, s1.ws.it, ?_, s1.ws.inj, ?_⟩, ?_, ?_⟩ Qc hc
  · intro b' o v hv
    by_cases he : b' = b
    · subst he
      have hv' : arr.toList[o]? = some v := by simpa [m2] using hv
      rw [cell_of_blk hg]; simpa using hv'
    · have hv' : m b' o = some v := by simpa [m2, he] using hv
      exact s.ws.imm b' o v hv'
  · intro b' o v hv
    by_cases he : b' = b
    · subst he; exact .inr o1
    · have hv' : m b' o = some v := by simpa [m2, he] using hv
      exact s1.ws.grow b' o v hv'
  · intro i l' hf
    obtain ⟨b', arr', T', g1, g2, g3, g4⟩ := s1.ws.blk i l' hf
    exact ⟨b', arr', T', g1, g2, g3.mono hle, g4⟩
  · intro i b' hx
    obtain ⟨g1, g2, g3⟩ := s1.ws.own i b' hx
    refine ⟨g1, g2, fun o => ?_⟩
    show (if _ then _ else _) = none
    rw [if_neg (hne i b' hx)]; exact g3 o
  · intro k' b' f' t' hx
    obtain ⟨g1, g2, g3, g4, g5⟩ := s1.ws.spare k' b' f' t' hx
    refine ⟨g1, g2, fun o ho => ?_, g4, g5⟩
    have hb' : b' ≠ b := by
      rintro rfl
      have hx' : hh k' = some (b', f', t') := by
        unfold purgeS at hx
        split at hx
        · cases hx
        · exact hx
      exact (s.ws.spare k' b' f' t' hx').2.2.2.1 id hbl
    show (if _ then _ else _) = none
    rw [if_neg hb']; exact g3 o ho
  · intro t x hx
    have hmem : ∀ (ts : List Nat), (∀ t ∈ ts, find t e = some (.ptr id 0)) → find t ((ts.map fun t => (t, AV.cptr l)) ++ (LS.purge [id] ⟨e, h, f⟩).e) = some x → (t ∈ ts ∧ x = .cptr l) ∨ find t (LS.purge [id] ⟨e, h, f⟩).e = some x := by
      intro ts
      induction ts with
      | nil => intro _ hx; exact .inr hx
      | cons t0 ts ih =>
        intro hall hx
        by_cases he : t0 = t
        · subst he
          have hx2 : find t0 ((t0, AV.cptr l) :: ((ts.map fun t => (t, AV.cptr l)) ++ (LS.purge [id] ⟨e, h, f⟩).e)) = some x := hx
          rw [find, if_pos rfl] at hx2
          exact .inl ⟨by simp, (Option.some.inj hx2).symm⟩
        · have hx2 : find t ((t0, AV.cptr l) :: ((ts.map fun t => (t, AV.cptr l)) ++ (LS.purge [id] ⟨e, h, f⟩).e)) = some x := hx
          rw [find, if_neg he] at hx2
          rcases ih (fun t ht => hall t (by simp [ht])) hx2 with ⟨g1, g2⟩ | g
          · exact .inl ⟨by simp [g1], g2⟩
          · exact .inr g
    have hall : ∀ t ∈ ts, find t e = some (.ptr id 0) := by
      intro t0 ht0
      have := List.all_eq_true.1 ht t0 ht0
      split at this
      · rename_i i hf; rw [hf]; have : i = id := by simpa using this
        rw [this]
      · cases this
    rcases hmem ts hall hx with ⟨g1, rfl⟩ | g
    · have := s.env t _ (hall t g1)
      generalize hv : a.tmps.getD t undef = v at this
      cases this with
      | ptr hbb =>
        rw [hbl] at hbb; cases hbb
        refine .cptr (cs := arr.toList) ((hr.mono hle).bareR hb) h1 fun j v hj => ?_
        show (if _ then _ else _) = some v
        rw [if_pos rfl, Nat.zero_add]; exact hj
    · exact (s1.env t x g).mono hle
  · intro d hd
    exact s1.free d (by simp [LS.purge, hd])
end Go.Cx
