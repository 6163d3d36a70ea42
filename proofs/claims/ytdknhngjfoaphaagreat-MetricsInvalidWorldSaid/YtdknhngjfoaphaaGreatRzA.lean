/-
  Own blocks that are lent to a call, or written no more. No conditions.
-/
import Derived.Test.YtdknhngjfoaphaaGreatRxU
set_option linter.all false
namespace Go.Rx
open Go.RowKit

def FzL (id : Nat) (l : List AV) (ys xs : List AV) : Prop := ∀ m bl m' bl', Frz id l m bl m' bl' → ∀ vs, Reps m bl ys vs → Reps m' bl' xs vs
theorem FzOk.undef {id l y} : FzOk id l y .undef := fun _ _ _ _ _ _ _ => .undef
theorem FzL.nil {id l} : FzL id l [] [] := fun _ _ _ _ _ vs r => by cases r; exact .nil
theorem FzL.cons {id l y x ys xs} (h : FzOk id l y x) (k : FzL id l ys xs) : FzL id l (y :: ys) (x :: xs) := fun m bl m' bl' f vs r => by
  cases r with | cons a b => exact .cons (h _ _ _ _ f _ a) (k _ _ _ _ f _ b)
theorem FzOk.agg {id l ys xs} (h : FzL id l ys xs) : FzOk id l (.agg ys) (.agg xs) := fun m bl m' bl' f v r => by cases r with | agg a b => exact .agg (h _ _ _ _ f _ a) b
theorem FzOk.tup {id l ys xs} (h : FzL id l ys xs) : FzOk id l (.tup ys) (.tup xs) := fun m bl m' bl' f v r => by cases r with | tup a => exact .tup (h _ _ _ _ f _ a)
theorem FzOk.clo {id l g ys xs} (h : FzL id l ys xs) : FzOk id l (.clo g ys) (.clo g xs) := fun m bl m' bl' f v r => by cases r with | clo a => exact .clo (h _ _ _ _ f _ a)
theorem FzOk.opt {id l c y x} (h : FzOk id l y x) : FzOk id l (.opt c y) (.opt c x) := fun m bl m' bl' f v r => by cases r with | opt a b => exact .opt (fun e => h _ _ _ _ f _ (a e)) b
theorem FzOk.ifc {id l t y x} (h : FzOk id l y x) : FzOk id l (.ifc t y) (.ifc t x) := fun m bl m' bl' f v r => by cases r with | ifc a => exact .ifc (h _ _ _ _ f _ a)
theorem FzOk.bare {id l y} (h : y.isBare = true) : FzOk id l y y := by
  have := FzOk.of_re (id := id) (l := l) y
  rwa [bare_of h] at this

theorem bare_cons {x : AV} {l : List AV} (h : x.isBare = true) (k : allBare l = true) : allBare (x :: l) = true := by
  show (AV.clean _ x && cleanL _ l) = true
  rw [show AV.clean (fun _ => false) x = true from h, show cleanL (fun _ => false) l = true from k]; rfl
theorem Reps.split {m : Mem} {bl : Names} : ∀ {a c : List AV} {vs}, Reps m bl (a ++ c) vs → ∃ v1 v2, vs = v1 ++ v2 ∧ Reps m bl a v1 ∧ Reps m bl c v2
  | [], c, vs, r => ⟨[], vs, rfl, .nil, r⟩
  | x :: a, c, vs, r => by
    cases r with
    | cons h t =>
      obtain ⟨v1, v2, rfl, h1, h2⟩ := Reps.split t
      exact ⟨_ :: v1, v2, rfl, .cons h h1, h2⟩
section
variable {P : Program} {tb : Tb} {ρ : Type} {cx : Ctx P tb}

mutual
theorem has_all {q : Nat → Bool} (hq : ∀ i, q i = true) : ∀ x : SV tb, x.has q = true
  | .undef => rfl
  | .i _ _ => rfl
  | .b8 _ => rfl
  | .bo _ => rfl
  | .st _ => rfl
  | .con _ => rfl
  | .agg l => hasL_all hq l
  | .tup l => hasL_all hq l
  | .sl _ _ _ => rfl
  | .em _ => rfl
  | .cp _ => rfl
  | .fn _ l => hasL_all hq l
  | .ptr id _ => hq id
  | .epr id _ _ _ => hq id
  | .row id _ _ _ _ => hq id
  | .rw id _ => hq id
  | .opt _ x => has_all hq x
  | .cl _ _ _ _ _ _ => rfl
  | .ifc _ x => has_all hq x
theorem hasL_all {q : Nat → Bool} (hq : ∀ i, q i = true) : ∀ l : List (SV tb), hasL q l = true
  | [] => rfl
  | x :: l => by rw [hasL_cons, has_all hq x, hasL_all hq l]; rfl
end
mutual
theorem has_bare : ∀ {x : SV tb}, x.has (fun _ => false) = true → x.av.isBare = true
  | .undef, _ => rfl
  | .i _ _, _ => rfl
  | .b8 _, _ => rfl
  | .bo _, _ => rfl
  | .st _, _ => rfl
  | .con _, _ => rfl
  | .agg l, h => hasL_bare (l := l) h
  | .tup l, h => hasL_bare (l := l) h
  | .sl _ _ _, _ => rfl
  | .em _, _ => rfl
  | .cp _, _ => rfl
  | .fn _ l, h => hasL_bare (l := l) h
  | .ptr id off, h => by cases h
  | .epr id E i fo, h => by cases h
  | .row id E off len mc, h => by cases h
  | .rw id E, h => by cases h
  | .opt _ x, h => has_bare (x := x) h
  | .cl _ _ _ _ caps hc, _ => hc.2.1
  | .ifc _ x, h => has_bare (x := x) h
theorem hasL_bare : ∀ {l : List (SV tb)}, hasL (fun _ => false) l = true → allBare (avL l) = true
  | [], _ => rfl
  | x :: l, h => by
    rw [hasL_cons, Bool.and_eq_true] at h
    exact bare_cons (has_bare h.1) (hasL_bare h.2)
end
theorem el_bare (cx : Ctx P tb) {E : tb.Ix} (l : List (tb.T E)) : allBare ((l.map (tb.el E)).flatMap AV.cells) = true := by
  induction l with
  | nil => rfl
  | cons x l ih =>
    rw [List.map_cons, List.flatMap_cons]
    show cleanL _ _ = true
    rw [cleanL_append, show cleanL _ (tb.el E x).cells = true from ((cx.ok E).bare x).2, show cleanL _ _ = true from ih]; rfl
/-- What a block holds once it is written no more; none: that is not known. -/
def SC.ce : SC tb → Option (List AV)
  | .cells l => some (avL l)
  | .arr E l => some (elC tb E l)
  | .iter _ _ => none
mutual
theorem res_fz (cx : Ctx P tb) {g : Gn tb} {id : Nat} {c : SC tb} {l : List AV} (hc : c.ce = some l) (hg : find id g = none) : ∀ x : SV tb, FzOk id l (x.res g).av (x.res ((id, Gone.fz c) :: g)).av
  | .undef => .undef
  | .i _ _ => .bare rfl
  | .b8 _ => .bare rfl
  | .bo _ => .bare rfl
  | .st _ => .bare rfl
  | .con _ => .bare rfl
  | .agg xs => .agg (resL_fz cx hc hg xs)
  | .tup xs => .tup (resL_fz cx hc hg xs)
  | .sl _ _ _ => .bare rfl
  | .em _ => .bare rfl
  | .cp _ => .bare rfl
  | .fn f xs => .clo (resL_fz cx hc hg xs)
  | .ptr i off => by
    simp only [SV.res]
    rw [find_cons]
    by_cases hi : id = i
    · subst hi
      rw [hg, if_pos rfl]
      cases c with
      | cells cl =>
        cases hc
        show FzOk id (avL cl) (.ptr id off) (.cptr (avL (cl.drop off)))
        rw [avL_drop]; exact .ptr
      | arr E' l' => exact .undef
      | iter _ _ => exact .undef
    · rw [if_neg hi]
      cases hf : find i g with
      | none =>
        have := FzOk.of_re (id := id) (l := l) (.ptr i off)
        simp only [AV.re, if_neg (Ne.symm hi)] at this
        exact this
      | some c' =>
        cases c' with
        | drop => exact .undef
        | fz c' => cases c' with
          | cells _ => exact .bare rfl
          | arr _ _ => exact .undef
          | iter _ _ => exact .undef
  | .epr i E k fo => by
    simp only [SV.res]
    rw [find_cons]
    by_cases hi : id = i
    · rw [if_pos hi]; exact .undef
    · rw [if_neg hi]
      cases hf : find i g with
      | none =>
        have := FzOk.of_re (id := id) (l := l) (.ptr i (k.toNat * tb.sz E + fo))
        simp only [AV.re, if_neg (Ne.symm hi)] at this
        exact this
      | some c' => exact .undef
  | .row i E off len mc => by
    simp only [SV.res]
    rw [find_cons]
    by_cases hi : id = i
    · rw [if_pos hi]; exact .undef
    · rw [if_neg hi]
      cases hf : find i g with
      | none =>
        have := FzOk.of_re (id := id) (l := l) (.row i (off * tb.sz E) len mc (tb.sz E))
        simp only [AV.re, if_neg (Ne.symm hi)] at this
        exact this
      | some c' => exact .undef
  | .rw i E => by
    simp only [SV.res]
    rw [find_cons]
    by_cases hi : id = i
    · subst hi
      rw [hg, if_pos rfl]
      cases c with
      | cells cl => exact .undef
      | iter _ _ => exact .undef
      | arr E' l' =>
        cases hc
        show FzOk id (elC tb E' l') (.rw id (tb.sz E)) (SV.av (match tb.dec E' E with | isTrue h => .sl false E (h ▸ l') | isFalse _ => .undef))
        split
        · rename_i h _
          subst h
          exact .rw (els := l'.map (tb.el E')) (by
            intro x hx
            obtain ⟨y, -, rfl⟩ := List.mem_map.1 hx
            exact (cx.ok E').len y) (cx.ok E').pos rfl
        · exact .undef
    · rw [if_neg hi]
      cases hf : find i g with
      | none =>
        have := FzOk.of_re (id := id) (l := l) (.rw i (tb.sz E))
        simp only [AV.re, if_neg (Ne.symm hi)] at this
        exact this
      | some c' =>
        cases c' with
        | drop => exact .undef
        | fz c' => cases c' with
          | cells _ => exact .undef
          | iter _ _ => exact .undef
          | arr E' l' =>
            show FzOk id l (SV.av (match tb.dec E' E with | isTrue h => .sl false E (h ▸ l') | isFalse _ => .undef)) (SV.av (match tb.dec E' E with | isTrue h => .sl false E (h ▸ l') | isFalse _ => .undef))
            split
            · exact .bare rfl
            · exact .undef
  | .opt _ x => .opt (res_fz cx hc hg x)
  | .cl _ _ _ _ _ h => .bare h.2.1
  | .ifc _ x => .ifc (res_fz cx hc hg x)
theorem resL_fz (cx : Ctx P tb) {g : Gn tb} {id : Nat} {c : SC tb} {l : List AV} (hc : c.ce = some l) (hg : find id g = none) : ∀ xs : List (SV tb), FzL id l (avL (resL g xs)) (avL (resL ((id, Gone.fz c) :: g) xs))
  | [] => .nil
  | x :: xs => .cons (res_fz cx hc hg x) (resL_fz cx hc hg xs)
end

/- names that occur -/
mutual
def SV.nms : SV tb → List Nat → List Nat
  | .agg l, a => nmsL l a
  | .tup l, a => nmsL l a
  | .fn _ l, a => nmsL l a
  | .ptr id _, a => id :: a
  | .epr id _ _ _, a => id :: a
  | .row id _ _ _ _, a => id :: a
  | .rw id _, a => id :: a
  | .opt _ x, a => x.nms a
  | .ifc _ x, a => x.nms a
  | .undef, a => a
  | .i _ _, a => a
  | .b8 _, a => a
  | .bo _, a => a
  | .st _, a => a
  | .con _, a => a
  | .sl _ _ _, a => a
  | .em _, a => a
  | .cp _, a => a
  | .cl _ _ _ _ _ _, a => a
def nmsL : List (SV tb) → List Nat → List Nat
  | [], a => a
  | x :: l, a => x.nms (nmsL l a)
end
/-- The block's bare content. -/
def bareC (L : SLS tb) (id : Nat) : Option (SC tb) := match keepQ L.gn id with
  | false => none
  | true => match find id L.h with
    | some (.arr E l) => some (.arr E l)
    | some (.cells l) => tst (hasL (fun _ => false) (resL L.gn l)) (some (.cells (resL L.gn l)))
    | _ => none
theorem bareC_e (cx : Ctx P tb) {L : SLS tb} {id c} (h : bareC L id = some c) : ∃ l, c.ce = some l ∧ find id (avH L.gn L.h) = some (.cells l) ∧ allBare l = true ∧ find id L.gn = none := by
  unfold bareC at h
  split at h
  · cases h
  · rename_i hk
    have hk' := keepQ_e hk
    split at h
    · rename_i E l hf
      cases h
      exact ⟨_, rfl, by rw [find_avH, if_pos hk, hf]; rfl, el_bare cx l, hk'⟩
    · rename_i l hf
      obtain ⟨h1, h⟩ := tst_e h
      cases h
      exact ⟨_, rfl, by rw [find_avH, if_pos hk, hf]; rfl, hasL_bare h1, hk'⟩
    · cases h

/-! lending -/
theorem lend_frz {B : Nat} {m0 : Mem} {h : Hp} {m : Mem} {bl : Names} {w : World} (s : WSim B m0 h m bl w) {id : Nat} {l : List AV} {r : List (Nat × List Value)} (hf : find id h = some (.cells l)) (hb : allBare l = true)
    (hnd : id ∉ r.map (·.1)) (bl1 : Names) (h1 : bl1 id = bl id) : ∃ pre, LentOk m bl w [(id, pre)] ∧ ∀ bl2 : Names, (∀ i x, i ≠ id → bl1 i = some x → bl2 i = some x) → Frz id l (lend m bl r) bl1 (lend m bl ((id, pre) :: r)) bl2 := by
  rcases s.blk id l hf with ⟨g1, g2⟩ | ⟨b, n, arr, T, pre, rest, g1, g2, g3, g4, g5, g6⟩
  · refine ⟨[], ?_, fun bl2 h2 => ⟨?_, h2, .inl ⟨by rw [h1]; exact g1, g2⟩⟩⟩
    · intro p hp b n hbn
      rw [List.mem_singleton] at hp; subst hp
      rw [g1] at hbn; cases hbn
    · have : lend m bl ((id, []) :: r) = lend m bl r := by
        funext b o
        simp only [lend]; rw [g1]
      rw [this]; exact Mem.le.refl _
  · obtain ⟨o1, o2, o3⟩ := s.own id b n g1
    refine ⟨pre, ?_, fun bl2 h2 => ⟨?_, h2, .inr ⟨b, n, pre, by rw [h1]; exact g1, by rw [← g3], ?_, g6, ?_⟩⟩⟩
    · intro p hp b' n' hbn o v hv
      rw [List.mem_singleton] at hp; subst hp
      simp only at hbn hv
      rw [g1] at hbn; cases hbn
      rw [cell_of_blk g2]; exact pre_get g4 hv
    · intro b' o v e
      simp only [lend]
      rw [g1]
      simp only
      rw [if_neg]
      · exact e
      · rintro rfl
        rcases lend_src e with h | ⟨id', pre', n', q1, q2, -⟩
        · rw [o3 o] at h; cases h
        · have := s.inj id id' b' n n' g1 q2
          subst this
          exact hnd (List.mem_map.2 ⟨_, q1, rfl⟩)
    · have := g5.bare (bl' := noNames)
      rw [bareL, bareL_of hb] at this
      exact this.mono (lend_le s _)
    · intro o v hv
      simp only [lend]
      rw [g1]
      simp [hv]
/-- The blocks 'ids' as they are lent; x as the callee sees it. -/
def lendG (L : SLS tb) : List Nat → Gn tb → Option (Gn tb × List Nat)
  | [], g => some (g, [])
  | id :: r, g => match find id g with
    | some _ => lendG L r g
    | none => got (bareC L id) fun c => got (lendG L r ((id, .fz c) :: g)) fun p => some (p.1, id :: p.2)
theorem lendG_ok (cx : Ctx P tb) {L : SLS tb} {B : Nat} {m0 : Mem} {h : Hp} {m : Mem} {bl : Names} {w : World} (s : WSim B m0 h m bl w) : ∀ {ids : List Nat} {g : Gn tb} {p} {r : List (Nat × List Value)} {bl1 : Names}, lendG L ids g = some p →
    (∀ q ∈ needAV L p.2, find q.1 h = some (.cells q.2)) → (∀ i ∈ r.map (·.1), find i g ≠ none) → (∀ i, find i g = none → bl1 i = bl i) → (r.map (·.1)).Nodup → LentOk m bl w r →
    ∃ r' bl2, (r'.map (·.1)).Nodup ∧ LentOk m bl w r' ∧ ∀ xs vs, Reps (lend m bl r) bl1 (avL (resL g xs)) vs → Reps (lend m bl r') bl2 (avL (resL p.1 xs)) vs
  | [], g, p, r, bl1, hp, _, _, _, hnd, hlo => by
    cases hp
    exact ⟨r, bl1, hnd, hlo, fun xs vs h => h⟩
  | id :: ids, g, p, r, bl1, hp, hn, hr, hb1, hnd, hlo => by
    unfold lendG at hp
    split at hp
    · exact lendG_ok cx s hp hn hr hb1 hnd hlo
    · rename_i hid
      obtain ⟨c, hc, hp⟩ := got_e hp
      obtain ⟨p', hp', hp⟩ := got_e hp
      cases hp
      obtain ⟨l, c1, c2, c3, c4⟩ := bareC_e cx hc
      have hn0 : find id h = some (.cells l) := by
        have : needAV L (id :: p'.2) = (id, l) :: needAV L p'.2 := by simp [needAV, c2]
        rw [this] at hn
        exact hn (id, l) (by simp)
      have hn1 : ∀ q ∈ needAV L p'.2, find q.1 h = some (.cells q.2) := by
        intro q hq
        have : needAV L (id :: p'.2) = (id, l) :: needAV L p'.2 := by simp [needAV, c2]
        rw [this] at hn
        exact hn q (List.mem_cons_of_mem _ hq)
      have hidr : id ∉ r.map (·.1) := fun hm => hr id hm hid
      obtain ⟨pre, f1, f2⟩ := lend_frz s hn0 c3 hidr bl1 (hb1 id hid)
      have f2 := f2 (fun i => if i = id then none else bl1 i) (fun i x hi hx => by show (if _ then _ else _) = _; rw [if_neg hi]; exact hx)
      obtain ⟨r', bl2, e1, e2, e3⟩ := lendG_ok cx s (g := (id, .fz c) :: g) (r := (id, pre) :: r) (bl1 := fun i => if i = id then none else bl1 i) hp' hn1
        (by
          intro i hi
          rw [find_cons]
          simp only [List.map_cons, List.mem_cons] at hi
          rcases hi with rfl | hi
          · simp
          · split
            · simp
            · exact hr i hi)
        (by
          intro i hi
          rw [find_cons] at hi
          split at hi
          · cases hi
          · rename_i hne
            show (if _ then _ else _) = _
            rw [if_neg (Ne.symm hne)]; exact hb1 i hi)
        (by rw [List.map_cons, List.nodup_cons]; exact ⟨hidr, hnd⟩)
        (by
          intro q hq
          rcases List.mem_cons.1 hq with rfl | hq
          · exact f1 _ (by simp)
          · exact hlo q hq)
      refine ⟨r', bl2, e1, e2, fun xs vs h => e3 xs vs ?_⟩
      exact resL_fz cx c1 hid xs _ _ _ _ f2 _ h
def elemOf (P : Program) (tb : Tb) (t : Nat) : Option (tb.Ix × Nat × Nat) := got (P.underlying t) fun D => got (isSlD D) fun E' => got (tb.look E') fun E => got (elemT P t (tb.sz E)) fun p => some (E, p.1, p.2)
theorem elemOf_e {t p} (h : elemOf P tb t = some p) : ElemT P t p.2.1 (tb.sz p.1) p.2.2 := by
  unfold elemOf at h
  obtain ⟨D, hD, h⟩ := got_e h
  obtain ⟨E', hE', h⟩ := got_e h
  obtain ⟨E, hE, h⟩ := got_e h
  obtain ⟨q, hq, h⟩ := got_e h
  cases h
  exact elemT_e hq

/-- Nothing of nothing. -/
theorem QEx.sliceNil {o : Oper} {e : Env} {t y hi E sz by_ k i} (ho : o.op = .slice t y none (some hi) none) (ht : ElemT P t E sz by_) (hy : OpdOk e y (.v (.slice none 0 0))) (hh : OpdOk e hi (.v (.int k i))) (h0 : i = 0) : QEx P o e [] (.v (.slice none 0 0)) :=
  .pure fun _ _ _ m bl ac w hws _ hr => by
    have q1 := (hy.rep hr (by simp [ho, Op.operands])).eq_v
    have q2 := (hh.rep hr (by simp [ho, Op.operands])).eq_v
    subst h0
    refine ⟨.slice none 0 0, ?_, .v⟩
    simp [execOp, ho, q1, Instr.sliceAt, run_underlying_of ht.under, Instr.slice, Instr.sliceBounds, q2, Instr.sliceBound, asIntOf, run_sizeOf_of ht.sz]
def qSlN (P : Program) (tb : Tb) (L : SLS tb) (G : Gd) (t : Nat) (hi : Operand) (k : SV tb → List Nat → Option ρ) : Option ρ :=
  got (elemOf P tb t) fun p => got (opd L G hi) fun b => got (asI b) fun q => chk G (q.2 = 0) (k (.con (.slice none 0 0)) [])
theorem qSlN_ok {L : SLS tb} {G o t y hi a} {k : SV tb → List Nat → Option ρ} {r} (ho : o.op = .slice t y none (some hi) none) (ha : opd L G y = some a) (hn : isNil a = true) (h : qSlN P tb L G t hi k = some r) : QOk P L G o k r := by
  unfold qSlN at h
  obtain ⟨p, hp, h⟩ := got_e h
  obtain ⟨b, hb, h⟩ := got_e h
  obtain ⟨q, hq, h⟩ := got_e h
  obtain ⟨hc, h⟩ := chk_e h
  refine ⟨_, [], h, fun u => ?_⟩
  have h1 := opd_ok u ha
  rw [isNil_e hn] at h1
  have h2 := opd_ok u hb
  rw [asI_e hq] at h2
  exact QEx.sliceNil ho (elemOf_e hp) h1 h2 (hc u.on)
/-- Three bounds: what it yields does not count. -/
def qSlice3U (cx : Ctx P tb) (L : SLS tb) (G : Gd) (t : Nat) (y lo hi mx : Operand) (k : SV tb → List Nat → Option ρ) : Option ρ :=
  got (opd L G y) fun a => got (opd L G lo) fun b1 => got (asI b1) fun p1 => got (opd L G hi) fun b2 => got (asI b2) fun p2 => got (opd L G mx) fun b3 => got (asI b3) fun p3 => match a with
  | .row id E off len mc => got (elemT P t (tb.sz E)) fun _ => chk G (0 ≤ p1.2 ∧ p1.2 ≤ p2.2 ∧ p2.2 ≤ p3.2 ∧ p3.2 ≤ mc) (k .undef [])
  | .rw id E => got (elemT P t (tb.sz E)) fun _ => got (arrAt L id E) fun l => chk G (0 ≤ p1.2 ∧ p1.2 ≤ p2.2 ∧ p2.2 ≤ p3.2 ∧ p3.2 ≤ l.length) (k .undef [id])
  | _ => none
theorem qSlice3U_ok {L : SLS tb} {G o t y lo hi mx} {k : SV tb → List Nat → Option ρ} {r} (ho : o.op = .slice t y (some lo) (some hi) (some mx)) (h : qSlice3U cx L G t y lo hi mx k = some r) : QOk P L G o k r := by
  unfold qSlice3U at h
  obtain ⟨a, ha, h⟩ := got_e h
  obtain ⟨b1, hb1, h⟩ := got_e h
  obtain ⟨p1, hp1, h⟩ := got_e h
  obtain ⟨b2, hb2, h⟩ := got_e h
  obtain ⟨p2, hp2, h⟩ := got_e h
  obtain ⟨b3, hb3, h⟩ := got_e h
  obtain ⟨p3, hp3, h⟩ := got_e h
  have hy := fun u => opd_ok (L := L) (G := G) u ha
  have h1 := fun u => opd_ok (L := L) (G := G) u hb1
  have h2 := fun u => opd_ok (L := L) (G := G) u hb2
  have h3 := fun u => opd_ok (L := L) (G := G) u hb3
  rw [asI_e hp1] at h1
  rw [asI_e hp2] at h2
  rw [asI_e hp3] at h3
  split at h
  · obtain ⟨ET, hE, h⟩ := got_e h
    obtain ⟨hc, h⟩ := chk_e h
    exact ⟨_, [], h, fun u => QEx.slice3U (need := []) ho (elemT_e hE) ((hy u).r (by simp [ho, Op.operands])) (h1 u) (h2 u) (h3 u) (hc u.on)⟩
  · obtain ⟨ET, hE, h⟩ := got_e h
    obtain ⟨l, hl, h⟩ := got_e h
    have hl := arrAt_e hl
    obtain ⟨hc, h⟩ := chk_e h
    refine ⟨_, _, h, fun u => ?_⟩
    rw [needAV_one hl]
    exact QEx.slice3U ho (elemT_e hE) (ROk.rw (xs := l.map (tb.el _)) (hy u) (by simp [ho, Op.operands]) (show _ ∈ [(_, elC tb _ l)] from mem1) (elC_len cx.ok) (cx.ok _).pos) (h1 u) (h2 u) (h3 u) (by rw [List.length_map]; exact hc u.on)
  · cases h
/-- A slice of a slice; or of nothing. -/
def qSliceN (cx : Ctx P tb) (L : SLS tb) (G : Gd) (t : Nat) (y : Operand) (lo hi : Option Operand) (k : SV tb → List Nat → Option ρ) : Option ρ := match opd L G y with
  | some a => (match isNil a with
    | true => (match lo, hi with
      | none, some h => qSlN P tb L G t h k
      | _, _ => none)
    | false => qSlice cx L G t y lo hi k)
  | none => none
theorem qSliceN_ok {L : SLS tb} {G o t y lo hi} {k : SV tb → List Nat → Option ρ} {r} (ho : o.op = .slice t y lo hi none) (h : qSliceN cx L G t y lo hi k = some r) : QOk P L G o k r := by
  unfold qSliceN at h
  split at h
  · rename_i a ha
    split at h
    · rename_i hn
      split at h
      · exact qSlN_ok ho ha hn h
      · cases h
    · exact qSlice_ok ho h
  · cases h
end
end Go.Rx
