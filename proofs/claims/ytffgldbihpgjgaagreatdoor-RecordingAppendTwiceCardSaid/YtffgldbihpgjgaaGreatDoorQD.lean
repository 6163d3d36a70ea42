/- Several texts in one. No conditions. -/
import Derived.Test.YtffgldbihpgjgaaGreatDoorQC
section
/-
  Own blocks that are lent to a call, or written no more. No conditions.
-/
set_option linter.all false
namespace Go.Rx
open Go.RowKit
variable [GlC]

def FzL (id : Nat) (l : List AV) (ys xs : List AV) : Prop := ∀ m bl m' bl', Frz id l m bl m' bl' → ∀ vs, Reps m bl ys vs → Reps m' bl' xs vs
theorem FzOk.undef {id l y} : FzOk id l y .undef := fun _ _ _ _ _ _ _ => .undef
theorem FzL.nil {id l} : FzL id l [] [] := fun _ _ _ _ _ vs r => by cases r; exact .nil
theorem FzL.cons {id l y x ys xs} (h : FzOk id l y x) (k : FzL id l ys xs) : FzL id l (y :: ys) (x :: xs) := fun m bl m' bl' f vs r => by
  cases r with | cons a b => exact .cons (h _ _ _ _ f _ a) (k _ _ _ _ f _ b)
theorem FzOk.agg {id l ys xs} (h : FzL id l ys xs) : FzOk id l (.agg ys) (.agg xs) := fun m bl m' bl' f v r => by cases r with | agg a b => exact .agg (h _ _ _ _ f _ a) b
theorem FzOk.tup {id l ys xs} (h : FzL id l ys xs) : FzOk id l (.tup ys) (.tup xs) := fun m bl m' bl' f v r => by cases r with | tup a => exact .tup (h _ _ _ _ f _ a)
theorem FzOk.clo {id l g ys xs} (h : FzL id l ys xs) : FzOk id l (.clo g ys) (.clo g xs) := fun m bl m' bl' f v r => by cases r with | clo a => exact .clo (h _ _ _ _ f _ a)
theorem FzOk.opt {id l c y x} (h : FzOk id l y x) : FzOk id l (.opt c y) (.opt c x) := fun m bl m' bl' f v r => by cases r with | opt a b => exact .opt (fun e => h _ _ _ _ f _ (a e)) b
theorem FzOk.ifc {id l t y x} (h : FzOk id l y x) : FzOk id l (.ifc t y) (.ifc t x) := fun m bl m' bl' f v r => by cases r with | ifc a => exact .ifc (h _ _ _ _ f _ a)
theorem FzOk.bare {id l y} (h : y.isBare = true) : FzOk id l y y := by
  have := FzOk.of_re (id := id) (l := l) y
  rwa [bare_of h] at this

theorem bare_cons {x : AV} {l : List AV} (h : x.isBare = true) (k : allBare l = true) : allBare (x :: l) = true := by
  show (AV.clean _ x && cleanL _ l) = true
  rw [show AV.clean (fun _ => false) x = true from h, show cleanL (fun _ => false) l = true from k]; rfl
theorem Reps.split {m : Mem} {bl : Names} : ∀ {a c : List AV} {vs}, Reps m bl (a ++ c) vs → ∃ v1 v2, vs = v1 ++ v2 ∧ Reps m bl a v1 ∧ Reps m bl c v2
  | [], c, vs, r => ⟨[], vs, rfl, .nil, r⟩
  | x :: a, c, vs, r => by
    cases r with
    | cons h t =>
      obtain ⟨v1, v2, rfl, h1, h2⟩ := Reps.split t
      exact ⟨_ :: v1, v2, rfl, .cons h h1, h2⟩
section
variable {P : Program} {tb : Tb} {ρ : Type} {cx : Ctx P tb}

mutual
theorem has_all {q : Nat → Bool} (hq : ∀ i, q i = true) : ∀ x : SV tb, x.has q = true
  | .undef => rfl
  | .i _ _ => rfl
  | .b8 _ => rfl
  | .bo _ => rfl
  | .st _ => rfl
  | .con _ => rfl
  | .agg l => hasL_all hq l
  | .tup l => hasL_all hq l
  | .sl _ _ _ => rfl
  | .em _ => rfl
  | .cp _ => rfl
  | .fn _ l => hasL_all hq l
  | .ptr id _ => hq id
  | .epr id _ _ _ => hq id
  | .row id _ _ _ _ => hq id
  | .rw id _ => hq id
  | .opt _ x => has_all hq x
  | .cl _ _ _ _ _ _ => rfl
  | .ifc _ x => has_all hq x
theorem hasL_all {q : Nat → Bool} (hq : ∀ i, q i = true) : ∀ l : List (SV tb), hasL q l = true
  | [] => rfl
  | x :: l => by rw [hasL_cons, has_all hq x, hasL_all hq l]; rfl
end
mutual
theorem has_bare : ∀ {x : SV tb}, x.has (fun _ => false) = true → x.av.isBare = true
  | .undef, _ => rfl
  | .i _ _, _ => rfl
  | .b8 _, _ => rfl
  | .bo _, _ => rfl
  | .st _, _ => rfl
  | .con _, _ => rfl
  | .agg l, h => hasL_bare (l := l) h
  | .tup l, h => hasL_bare (l := l) h
  | .sl _ _ _, _ => rfl
  | .em _, _ => rfl
  | .cp _, _ => rfl
  | .fn _ l, h => hasL_bare (l := l) h
  | .ptr id off, h => by cases h
  | .epr id E i fo, h => by cases h
  | .row id E off len mc, h => by cases h
  | .rw id E, h => by cases h
  | .opt _ x, h => has_bare (x := x) h
  | .cl _ _ _ _ caps hc, _ => hc.2.1
  | .ifc _ x, h => has_bare (x := x) h
theorem hasL_bare : ∀ {l : List (SV tb)}, hasL (fun _ => false) l = true → allBare (avL l) = true
  | [], _ => rfl
  | x :: l, h => by
    rw [hasL_cons, Bool.and_eq_true] at h
    exact bare_cons (has_bare h.1) (hasL_bare h.2)
end
theorem el_bare (cx : Ctx P tb) {E : tb.Ix} (l : List (tb.T E)) : allBare ((l.map (tb.el E)).flatMap AV.cells) = true := by
  induction l with
  | nil => rfl
  | cons x l ih =>
    rw [List.map_cons, List.flatMap_cons]
    show cleanL _ _ = true
    rw [cleanL_append, show cleanL _ (tb.el E x).cells = true from ((cx.ok E).bare x).2, show cleanL _ _ = true from ih]; rfl
/-- What a block holds once it is written no more; none: that is not known. -/
def SC.ce : SC tb → Option (List AV)
  | .cells l => some (avL l)
  | .arr E l => some (elC tb E l)
  | .iter _ _ => none
mutual
theorem res_fz (cx : Ctx P tb) {g : Gn tb} {id : Nat} {c : SC tb} {l : List AV} (hc : c.ce = some l) (hg : find id g = none) : ∀ x : SV tb, FzOk id l (x.res g).av (x.res ((id, Gone.fz c) :: g)).av
  | .undef => .undef
  | .i _ _ => .bare rfl
  | .b8 _ => .bare rfl
  | .bo _ => .bare rfl
  | .st _ => .bare rfl
  | .con _ => .bare rfl
  | .agg xs => .agg (resL_fz cx hc hg xs)
  | .tup xs => .tup (resL_fz cx hc hg xs)
  | .sl _ _ _ => .bare rfl
  | .em _ => .bare rfl
  | .cp _ => .bare rfl
  | .fn f xs => .clo (resL_fz cx hc hg xs)
  | .ptr i off => by
    simp only [SV.res]
    rw [find_cons]
    by_cases hi : id = i
    · subst hi
      rw [hg, if_pos rfl]
      cases c with
      | cells cl =>
        cases hc
        show FzOk id (avL cl) (.ptr id off) (.cptr (avL (cl.drop off)))
        rw [avL_drop]; exact .ptr
      | arr E' l' => exact .undef
      | iter _ _ => exact .undef
    · rw [if_neg hi]
      cases hf : find i g with
      | none =>
        have := FzOk.of_re (id := id) (l := l) (.ptr i off)
        simp only [AV.re, if_neg (Ne.symm hi)] at this
        exact this
      | some c' =>
        cases c' with
        | drop => exact .undef
        | fz c' => cases c' with
          | cells _ => exact .bare rfl
          | arr _ _ => exact .undef
          | iter _ _ => exact .undef
  | .epr i E k fo => by
    simp only [SV.res]
    rw [find_cons]
    by_cases hi : id = i
    · rw [if_pos hi]; exact .undef
    · rw [if_neg hi]
      cases hf : find i g with
      | none =>
        have := FzOk.of_re (id := id) (l := l) (.ptr i (k.toNat * tb.sz E + fo))
        simp only [AV.re, if_neg (Ne.symm hi)] at this
        exact this
      | some c' => exact .undef
  | .row i E off len mc => by
    simp only [SV.res]
    rw [find_cons]
    by_cases hi : id = i
    · rw [if_pos hi]; exact .undef
    · rw [if_neg hi]
      cases hf : find i g with
      | none =>
        have := FzOk.of_re (id := id) (l := l) (.row i (off * tb.sz E) len mc (tb.sz E))
        simp only [AV.re, if_neg (Ne.symm hi)] at this
        exact this
      | some c' => exact .undef
  | .rw i E => by
    simp only [SV.res]
    rw [find_cons]
    by_cases hi : id = i
    · subst hi
      rw [hg, if_pos rfl]
      cases c with
      | cells cl => exact .undef
      | iter _ _ => exact .undef
      | arr E' l' =>
        cases hc
        show FzOk id (elC tb E' l') (.rw id (tb.sz E)) (SV.av (match tb.dec E' E with | isTrue h => .sl false E (h ▸ l') | isFalse _ => .undef))
        split
        · rename_i h _
          subst h
          exact .rw (els := l'.map (tb.el E')) (by
            intro x hx
            obtain ⟨y, -, rfl⟩ := List.mem_map.1 hx
            exact (cx.ok E').len y) (cx.ok E').pos rfl
        · exact .undef
    · rw [if_neg hi]
      cases hf : find i g with
      | none =>
        have := FzOk.of_re (id := id) (l := l) (.rw i (tb.sz E))
        simp only [AV.re, if_neg (Ne.symm hi)] at this
        exact this
      | some c' =>
        cases c' with
        | drop => exact .undef
        | fz c' => cases c' with
          | cells _ => exact .undef
          | iter _ _ => exact .undef
          | arr E' l' =>
            show FzOk id l (SV.av (match tb.dec E' E with | isTrue h => .sl false E (h ▸ l') | isFalse _ => .undef)) (SV.av (match tb.dec E' E with | isTrue h => .sl false E (h ▸ l') | isFalse _ => .undef))
            split
            · exact .bare rfl
            · exact .undef
  | .opt _ x => .opt (res_fz cx hc hg x)
  | .cl _ _ _ _ _ h => .bare h.2.1
  | .ifc _ x => .ifc (res_fz cx hc hg x)
theorem resL_fz (cx : Ctx P tb) {g : Gn tb} {id : Nat} {c : SC tb} {l : List AV} (hc : c.ce = some l) (hg : find id g = none) : ∀ xs : List (SV tb), FzL id l (avL (resL g xs)) (avL (resL ((id, Gone.fz c) :: g) xs))
  | [] => .nil
  | x :: xs => .cons (res_fz cx hc hg x) (resL_fz cx hc hg xs)
end

/- names that occur -/
mutual
def SV.nms : SV tb → List Nat → List Nat
  | .agg l, a => nmsL l a
  | .tup l, a => nmsL l a
  | .fn _ l, a => nmsL l a
  | .ptr id _, a => id :: a
  | .epr id _ _ _, a => id :: a
  | .row id _ _ _ _, a => id :: a
  | .rw id _, a => id :: a
  | .opt _ x, a => x.nms a
  | .ifc _ x, a => x.nms a
  | .undef, a => a
  | .i _ _, a => a
  | .b8 _, a => a
  | .bo _, a => a
  | .st _, a => a
  | .con _, a => a
  | .sl _ _ _, a => a
  | .em _, a => a
  | .cp _, a => a
  | .cl _ _ _ _ _ _, a => a
def nmsL : List (SV tb) → List Nat → List Nat
  | [], a => a
  | x :: l, a => x.nms (nmsL l a)
end
/-- The block's bare content. -/
def bareC (L : SLS tb) (id : Nat) : Option (SC tb) := match keepQ L.gn id with
  | false => none
  | true => match find id L.h with
    | some (.arr E l) => some (.arr E l)
    | some (.cells l) => tst (hasL (fun _ => false) (resL L.gn l)) (some (.cells (resL L.gn l)))
    | _ => none
theorem bareC_e (cx : Ctx P tb) {L : SLS tb} {id c} (h : bareC L id = some c) : ∃ l, c.ce = some l ∧ find id (avH L.gn L.h) = some (.cells l) ∧ allBare l = true ∧ find id L.gn = none := by
  unfold bareC at h
  split at h
  · cases h
  · rename_i hk
    have hk' := keepQ_e hk
    split at h
    · rename_i E l hf
      cases h
      exact ⟨_, rfl, by rw [find_avH, if_pos hk, hf]; rfl, el_bare cx l, hk'⟩
    · rename_i l hf
      obtain ⟨h1, h⟩ := tst_e h
      cases h
      exact ⟨_, rfl, by rw [find_avH, if_pos hk, hf]; rfl, hasL_bare h1, hk'⟩
    · cases h

/-! lending -/
theorem lend_frz {B : Nat} {m0 : Mem} {h : Hp} {m : Mem} {bl : Names} {w : World} (s : WSim B m0 h m bl w) {id : Nat} {l : List AV} {r : List (Nat × List Value)} (hf : find id h = some (.cells l)) (hb : allBare l = true)
    (hnd : id ∉ r.map (·.1)) (bl1 : Names) (h1 : bl1 id = bl id) : ∃ pre, LentOk m bl w [(id, pre)] ∧ ∀ bl2 : Names, (∀ i x, i ≠ id → bl1 i = some x → bl2 i = some x) → Frz id l (lend m bl r) bl1 (lend m bl ((id, pre) :: r)) bl2 := by
  rcases s.blk id l hf with ⟨g1, g2⟩ | ⟨b, n, arr, T, pre, rest, g1, g2, g3, g4, g5, g6⟩
  · refine ⟨[], ?_, fun bl2 h2 => ⟨?_, h2, .inl ⟨by rw [h1]; exact g1, g2⟩⟩⟩
    · intro p hp b n hbn
      rw [List.mem_singleton] at hp; subst hp
      rw [g1] at hbn; cases hbn
    · have : lend m bl ((id, []) :: r) = lend m bl r := by
        funext b o
        simp only [lend]; rw [g1]
      rw [this]; exact Mem.le.refl _
  · obtain ⟨o1, o2, o3⟩ := s.own id b n g1
    refine ⟨pre, ?_, fun bl2 h2 => ⟨?_, h2, .inr ⟨b, n, pre, by rw [h1]; exact g1, by rw [← g3], ?_, g6, ?_⟩⟩⟩
    · intro p hp b' n' hbn o v hv
      rw [List.mem_singleton] at hp; subst hp
      simp only at hbn hv
      rw [g1] at hbn; cases hbn
      rw [cell_of_blk g2]; exact pre_get g4 hv
    · intro b' o v e
      simp only [lend]
      rw [g1]
      simp only
      rw [if_neg]
      · exact e
      · rintro rfl
        rcases lend_src e with h | ⟨id', pre', n', q1, q2, -⟩
        · rw [o3 o] at h; cases h
        · have := s.inj id id' b' n n' g1 q2
          subst this
          exact hnd (List.mem_map.2 ⟨_, q1, rfl⟩)
    · have := g5.bare (bl' := noNames)
      rw [bareL, bareL_of hb] at this
      exact this.mono (lend_le s _)
    · intro o v hv
      simp only [lend]
      rw [g1]
      simp [hv]
/-- The blocks 'ids' as they are lent; x as the callee sees it. -/
def lendG (L : SLS tb) : List Nat → Gn tb → Option (Gn tb × List Nat)
  | [], g => some (g, [])
  | id :: r, g => match find id g with
    | some _ => lendG L r g
    | none => got (bareC L id) fun c => got (lendG L r ((id, .fz c) :: g)) fun p => some (p.1, id :: p.2)
theorem lendG_ok (cx : Ctx P tb) {L : SLS tb} {B : Nat} {m0 : Mem} {h : Hp} {m : Mem} {bl : Names} {w : World} (s : WSim B m0 h m bl w) : ∀ {ids : List Nat} {g : Gn tb} {p} {r : List (Nat × List Value)} {bl1 : Names}, lendG L ids g = some p →
    (∀ q ∈ needAV L p.2, find q.1 h = some (.cells q.2)) → (∀ i ∈ r.map (·.1), find i g ≠ none) → (∀ i, find i g = none → bl1 i = bl i) → (r.map (·.1)).Nodup → LentOk m bl w r →
    ∃ r' bl2, (r'.map (·.1)).Nodup ∧ LentOk m bl w r' ∧ ∀ xs vs, Reps (lend m bl r) bl1 (avL (resL g xs)) vs → Reps (lend m bl r') bl2 (avL (resL p.1 xs)) vs
  | [], g, p, r, bl1, hp, _, _, _, hnd, hlo => by
    cases hp
    exact ⟨r, bl1, hnd, hlo, fun xs vs h => h⟩
  | id :: ids, g, p, r, bl1, hp, hn, hr, hb1, hnd, hlo => by
    unfold lendG at hp
    split at hp
    · exact lendG_ok cx s hp hn hr hb1 hnd hlo
    · rename_i hid
      obtain ⟨c, hc, hp⟩ := got_e hp
      obtain ⟨p', hp', hp⟩ := got_e hp
      cases hp
      obtain ⟨l, c1, c2, c3, c4⟩ := bareC_e cx hc
      have hn0 : find id h = some (.cells l) := by
        have : needAV L (id :: p'.2) = (id, l) :: needAV L p'.2 := by simp [needAV, c2]
        rw [this] at hn
        exact hn (id, l) (by simp)
      have hn1 : ∀ q ∈ needAV L p'.2, find q.1 h = some (.cells q.2) := by
        intro q hq
        have : needAV L (id :: p'.2) = (id, l) :: needAV L p'.2 := by simp [needAV, c2]
        rw [this] at hn
        exact hn q (List.mem_cons_of_mem _ hq)
      have hidr : id ∉ r.map (·.1) := fun hm => hr id hm hid
      obtain ⟨pre, f1, f2⟩ := lend_frz s hn0 c3 hidr bl1 (hb1 id hid)
      have f2 := f2 (fun i => if i = id then none else bl1 i) (fun i x hi hx => by show (if _ then _ else _) = _; rw [if_neg hi]; exact hx)
      obtain ⟨r', bl2, e1, e2, e3⟩ := lendG_ok cx s (g := (id, .fz c) :: g) (r := (id, pre) :: r) (bl1 := fun i => if i = id then none else bl1 i) hp' hn1
        (by
          intro i hi
          rw [find_cons]
          simp only [List.map_cons, List.mem_cons] at hi
          rcases hi with rfl | hi
          · simp
          · split
            · simp
            · exact hr i hi)
        (by
          intro i hi
          rw [find_cons] at hi
          split at hi
          · cases hi
          · rename_i hne
            show (if _ then _ else _) = _
            rw [if_neg (Ne.symm hne)]; exact hb1 i hi)
        (by rw [List.map_cons, List.nodup_cons]; exact ⟨hidr, hnd⟩)
        (by
          intro q hq
          rcases List.mem_cons.1 hq with rfl | hq
          · exact f1 _ (by simp)
          · exact hlo q hq)
      refine ⟨r', bl2, e1, e2, fun xs vs h => e3 xs vs ?_⟩
      exact resL_fz cx c1 hid xs _ _ _ _ f2 _ h
def elemOf (P : Program) (tb : Tb) (t : Nat) : Option (tb.Ix × Nat × Nat) := got (P.underlying t) fun D => got (isSlD D) fun E' => got (tb.look E') fun E => got (elemT P t (tb.sz E)) fun p => some (E, p.1, p.2)
theorem elemOf_e {t p} (h : elemOf P tb t = some p) : ElemT P t p.2.1 (tb.sz p.1) p.2.2 := by
  unfold elemOf at h
  obtain ⟨D, hD, h⟩ := got_e h
  obtain ⟨E', hE', h⟩ := got_e h
  obtain ⟨E, hE, h⟩ := got_e h
  obtain ⟨q, hq, h⟩ := got_e h
  cases h
  exact elemT_e hq

/-- Nothing of nothing. -/
theorem QEx.sliceNil {o : Oper} {e : Env} {t y hi E sz by_ k i} (ho : o.op = .slice t y none (some hi) none) (ht : ElemT P t E sz by_) (hy : OpdOk e y (.v (.slice none 0 0))) (hh : OpdOk e hi (.v (.int k i))) (h0 : i = 0) : QEx P o e [] (.v (.slice none 0 0)) :=
  .pure fun _ _ _ m bl ac w hws _ hr => by
    have q1 := (hy.rep hr (by simp [ho, Op.operands])).eq_v
    have q2 := (hh.rep hr (by simp [ho, Op.operands])).eq_v
    subst h0
    refine ⟨.slice none 0 0, ?_, .v⟩
    simp [execOp, ho, q1, Instr.sliceAt, run_underlying_of ht.under, Instr.slice, Instr.sliceBounds, q2, Instr.sliceBound, asIntOf, run_sizeOf_of ht.sz]
def qSlN (P : Program) (tb : Tb) (L : SLS tb) (G : Gd) (t : Nat) (hi : Operand) (k : SV tb → List Nat → Option ρ) : Option ρ :=
  got (elemOf P tb t) fun p => got (opd L G hi) fun b => got (asI b) fun q => chk G (q.2 = 0) (k (.con (.slice none 0 0)) [])
theorem qSlN_ok {L : SLS tb} {G o t y hi a} {k : SV tb → List Nat → Option ρ} {r} (ho : o.op = .slice t y none (some hi) none) (ha : opd L G y = some a) (hn : isNil a = true) (h : qSlN P tb L G t hi k = some r) : QOk P L G o k r := by
  unfold qSlN at h
  obtain ⟨p, hp, h⟩ := got_e h
  obtain ⟨b, hb, h⟩ := got_e h
  obtain ⟨q, hq, h⟩ := got_e h
  obtain ⟨hc, h⟩ := chk_e h
  refine ⟨_, [], h, fun u => ?_⟩
  have h1 := opd_ok u ha
  rw [isNil_e hn] at h1
  have h2 := opd_ok u hb
  rw [asI_e hq] at h2
  exact QEx.sliceNil ho (elemOf_e hp) h1 h2 (hc u.on)
/-- Three bounds: what it yields does not count. -/
def qSlice3U (cx : Ctx P tb) (L : SLS tb) (G : Gd) (t : Nat) (y lo hi mx : Operand) (k : SV tb → List Nat → Option ρ) : Option ρ :=
  got (opd L G y) fun a => got (opd L G lo) fun b1 => got (asI b1) fun p1 => got (opd L G hi) fun b2 => got (asI b2) fun p2 => got (opd L G mx) fun b3 => got (asI b3) fun p3 => match a with
  | .row id E off len mc => got (elemT P t (tb.sz E)) fun _ => chk G (0 ≤ p1.2 ∧ p1.2 ≤ p2.2 ∧ p2.2 ≤ p3.2 ∧ p3.2 ≤ mc) (k .undef [])
  | .rw id E => got (elemT P t (tb.sz E)) fun _ => got (arrAt L id E) fun l => chk G (0 ≤ p1.2 ∧ p1.2 ≤ p2.2 ∧ p2.2 ≤ p3.2 ∧ p3.2 ≤ l.length) (k .undef [id])
  | _ => none
theorem qSlice3U_ok {L : SLS tb} {G o t y lo hi mx} {k : SV tb → List Nat → Option ρ} {r} (ho : o.op = .slice t y (some lo) (some hi) (some mx)) (h : qSlice3U cx L G t y lo hi mx k = some r) : QOk P L G o k r := by
  unfold qSlice3U at h
  obtain ⟨a, ha, h⟩ := got_e h
  obtain ⟨b1, hb1, h⟩ := got_e h
  obtain ⟨p1, hp1, h⟩ := got_e h
  obtain ⟨b2, hb2, h⟩ := got_e h
  obtain ⟨p2, hp2, h⟩ := got_e h
  obtain ⟨b3, hb3, h⟩ := got_e h
  obtain ⟨p3, hp3, h⟩ := got_e h
  have hy := fun u => opd_ok (L := L) (G := G) u ha
  have h1 := fun u => opd_ok (L := L) (G := G) u hb1
  have h2 := fun u => opd_ok (L := L) (G := G) u hb2
  have h3 := fun u => opd_ok (L := L) (G := G) u hb3
  rw [asI_e hp1] at h1
  rw [asI_e hp2] at h2
  rw [asI_e hp3] at h3
  split at h
  · obtain ⟨ET, hE, h⟩ := got_e h
    obtain ⟨hc, h⟩ := chk_e h
    exact ⟨_, [], h, fun u => QEx.slice3U (need := []) ho (elemT_e hE) ((hy u).r (by simp [ho, Op.operands])) (h1 u) (h2 u) (h3 u) (hc u.on)⟩
  · obtain ⟨ET, hE, h⟩ := got_e h
    obtain ⟨l, hl, h⟩ := got_e h
    have hl := arrAt_e hl
    obtain ⟨hc, h⟩ := chk_e h
    refine ⟨_, _, h, fun u => ?_⟩
    rw [needAV_one hl]
    exact QEx.slice3U ho (elemT_e hE) (ROk.rw (xs := l.map (tb.el _)) (hy u) (by simp [ho, Op.operands]) (show _ ∈ [(_, elC tb _ l)] from mem1) (elC_len cx.ok) (cx.ok _).pos) (h1 u) (h2 u) (h3 u) (by rw [List.length_map]; exact hc u.on)
  · cases h
/-- A slice of a slice; or of nothing. -/
def qSliceN (cx : Ctx P tb) (L : SLS tb) (G : Gd) (t : Nat) (y : Operand) (lo hi : Option Operand) (k : SV tb → List Nat → Option ρ) : Option ρ := match opd L G y with
  | some a => (match isNil a with
    | true => (match lo, hi with
      | none, some h => qSlN P tb L G t h k
      | _, _ => none)
    | false => qSlice cx L G t y lo hi k)
  | none => none
theorem qSliceN_ok {L : SLS tb} {G o t y lo hi} {k : SV tb → List Nat → Option ρ} {r} (ho : o.op = .slice t y lo hi none) (h : qSliceN cx L G t y lo hi k = some r) : QOk P L G o k r := by
  unfold qSliceN at h
  split at h
  · rename_i a ha
    split at h
    · rename_i hn
      split at h
      · exact qSlN_ok ho ha hn h
      · cases h
    · exact qSlice_ok ho h
  · cases h
end
end Go.Rx
end

section
/-
  Calls of functions that have a contract, run on symbolic values. No conditions.
-/
set_option linter.all false
namespace Go.Rx
open Go.RowKit
variable [GlC]

theorem Sub.cptr {l l' : List AV} (h : SubL l l') : Sub (.cptr l) (.cptr l') := by
  intro m bl v r
  cases r with | cptr h1 h2 h3 => exact .cptr (h _ _ _ h1) h2 h3

section
variable {P : Program} {tb : Tb} {ρ : Type} {cx : Ctx P tb}

/-- Captured values as arguments. -/
def capsD (cx : Ctx P tb) : (l : List (PTy tb)) → List (SV tb) → Option (PArgs tb l)
  | [], [] => some ()
  | .d i :: l, x :: xs => got ((cx.cd i).of x) fun a => got (capsD cx l xs) fun b => some (a, b)
  | .cap i :: l, .cp c :: xs => got ((cx.cd i).ofC c) fun a => got (capsD cx l xs) fun b => some (a, b)
  | _, _ => none
theorem capsD_ok : ∀ {l : List (PTy tb)} {xs a}, capsD cx l xs = some a → ∃ vs, ArgsR P l a vs ∧ SubL (avL xs) vs ∧ allBare vs = true
  | [], [], _, h => ⟨[], trivial, .refl _, rfl⟩
  | [], _ :: _, _, h => by cases h
  | .d i :: l, [], _, h => by cases h
  | .cap i :: l, [], _, h => by cases h
  | .fn _ _ :: l, xs, _, h => by cases xs <;> cases h
  | .d i :: l, x :: xs, ab, h => by
    unfold capsD at h
    obtain ⟨a, ha, h⟩ := got_e h
    obtain ⟨b, hb, h⟩ := got_e h
    cases h
    obtain ⟨vs, h1, h2, h3⟩ := capsD_ok hb
    exact ⟨_ :: vs, ⟨rfl, h1⟩, .cons ((cx.ok i).of _ _ ha) h2, bare_cons ((cx.ok i).bare a).1 h3⟩
  | .cap i :: l, x :: xs, ab, h => by
    cases x with
    | cp c =>
      unfold capsD at h
      obtain ⟨a, ha, h⟩ := got_e h
      obtain ⟨b, hb, h⟩ := got_e h
      cases h
      obtain ⟨vs, h1, h2, h3⟩ := capsD_ok hb
      exact ⟨_ :: vs, ⟨rfl, h1⟩, .cons (.cptr ((cx.ok i).ofC _ _ ha).1) h2, h3⟩
    | _ => cases h

/-- The arguments of a function some of whose variables are captured. -/
def mkPA (cx : Ctx P tb) : (l : List (PTy tb)) → (ps : List tb.Ix) → List (SV tb) → Option (Tup tb ps → PArgs tb l)
  | l, [], caps => got (capsD cx l caps) fun a => some fun _ => a
  | .d i :: l, [j], caps => (match tb.dec j i with
    | isTrue h => got (capsD cx l caps) fun a => some fun x => (h ▸ x, a)
    | isFalse _ => none)
  | .d i :: l, j :: j' :: r, caps => (match tb.dec j i with
    | isTrue h => got (mkPA cx l (j' :: r) caps) fun f => some fun x => (h ▸ x.1, f x.2)
    | isFalse _ => none)
  | _, _, _ => none
theorem mkPA_ok : ∀ {l : List (PTy tb)} {ps caps f}, mkPA cx l ps caps = some f → ∃ vs, SubL (avL caps) vs ∧ allBare vs = true ∧ ∀ a, ArgsR P l (f a) (tupAV ps a ++ vs)
  | l, [], caps, f, h => by
    unfold mkPA at h
    obtain ⟨a, ha, h⟩ := got_e h
    cases h
    obtain ⟨vs, h1, h2, h3⟩ := capsD_ok ha
    exact ⟨vs, h2, h3, fun _ => h1⟩
  | .d i :: l, [j], caps, f, h => by
    unfold mkPA at h
    split at h
    · rename_i hj _
      subst hj
      obtain ⟨a, ha, h⟩ := got_e h
      cases h
      obtain ⟨vs, h1, h2, h3⟩ := capsD_ok ha
      exact ⟨vs, h2, h3, fun x => ⟨rfl, h1⟩⟩
    · cases h
  | .d i :: l, j :: j' :: r, caps, f, h => by
    unfold mkPA at h
    split at h
    · rename_i hj _
      subst hj
      obtain ⟨a, ha, h⟩ := got_e h
      cases h
      obtain ⟨vs, h1, h2, h3⟩ := mkPA_ok ha
      exact ⟨vs, h1, h2, fun x => ⟨rfl, h3 x.2⟩⟩
    · cases h
  | [], [j], _, _, h => by cases h
  | [], j :: j' :: r, _, _, h => by cases h
  | .cap _ :: _, [j], _, _, h => by cases h
  | .cap _ :: _, j :: j' :: r, _, _, h => by cases h
  | .fn _ _ :: _, [j], _, _, h => by cases h
  | .fn _ _ :: _, j :: j' :: r, _, _, h => by cases h

def findCon (f : Nat) : List (Con P tb cx.cd) → Option (Con P tb cx.cd)
  | [] => none
  | c :: r => match Nat.beq c.fid f with | true => some c | false => findCon f r
theorem findCon_f {f : Nat} : ∀ {l : List (Con P tb cx.cd)} {c}, findCon f l = some c → c.fid = f
  | [], _, h => by simp [findCon] at h
  | c :: r, c', h => by
    simp only [findCon] at h
    split at h
    · rename_i hb; cases h; exact Nat.eq_of_beq_eq_true hb
    · exact findCon_f h
def isE {α : Type} : List α → Bool
  | [] => true
  | _ => false
theorem isE_e {α : Type} {l : List α} (h : isE l = true) : l = [] := by cases l; rfl; cases h
theorem Con.ok0 (c : Con P tb cx.cd) (h : c.own = []) {a avs r} (hr : ArgsR P c.ps a avs) (hf : c.f a = some r) : FnR P c.fid avs (resAV c.rs r) [] := by
  have := c.ok a avs r hr hf
  rw [h] at this
  obtain ⟨h1, h2⟩ := ansS_av cx.cd cx.ok c.rs r 0
  rw [h1, h2] at this; exact this
def decL (tb : Tb) : DecidableEq (List tb.Ix) := @instDecidableEqList _ tb.dec
/-- A closure as a function. -/
def cloG (cx : Ctx P tb) (f : Nat) (caps : List (SV tb)) (ps rs : List tb.Ix) : Option (Tup tb ps → Option (Tup tb rs)) :=
  got (findCon f cx.Γ) fun c => tst (isE c.own) <| got (mkPA cx c.ps ps caps) fun m => match decL tb c.rs rs with
  | isTrue h => some fun a => h ▸ c.cf (m a)
  | isFalse _ => none
theorem cloG_ok {f caps ps rs g} (h : cloG cx f caps ps rs = some g) : ∃ vs, SubL (avL caps) vs ∧ CloR tb f vs ps rs g := by
  unfold cloG at h
  obtain ⟨c, hc, h⟩ := got_e h
  obtain ⟨h1, h⟩ := tst_e h
  obtain ⟨m, hm, h⟩ := got_e h
  obtain ⟨vs, g1, g2, g3⟩ := mkPA_ok hm
  split at h
  · rename_i hrs _
    cases h
    refine ⟨vs, g1, ?_⟩
    have hP := cx.hP
    refine ⟨?_, g2, ?_⟩
    · rw [hP]; rw [← findCon_f hc]; exact c.call
    · intro a r hr
      rw [hP, ← findCon_f hc]
      subst hrs
      exact c.ok0 (isE_e h1) (g3 a) ((c.cf_eq _).symm.trans hr)
  · cases h

/-- A value as an argument. -/
def argD (cx : Ctx P tb) (x : SV tb) : (p : PTy tb) → Option p.den
  | .d i => (cx.cd i).of x
  | .cap i => match x with | .cp l => (cx.cd i).ofC l | _ => none
  | .fn ps rs => match x with
    | .cl ps' rs' g _ _ _ => (match decL tb ps' ps, decL tb rs' rs with
      | isTrue h, isTrue h' => some (h ▸ h' ▸ g)
      | _, _ => none)
    | .fn f caps => cloG cx f caps ps rs
    | _ => none
theorem argD_ok {x : SV tb} {p a} (h : argD cx x p = some a) : ∃ v, ArgR P p a v ∧ Sub x.av v ∧ v.isBare = true := by
  cases p with
  | d i => exact ⟨_, rfl, (cx.ok i).of _ _ h, ((cx.ok i).bare a).1⟩
  | cap i =>
    cases x with
    | cp l => exact ⟨_, rfl, .cptr ((cx.ok i).ofC _ _ h).1, rfl⟩
    | _ => cases h
  | fn ps rs =>
    cases x with
    | cl ps' rs' g f caps hc =>
      unfold argD at h
      simp only at h
      split at h
      · rename_i h1 h2 _ _
        subst h1 h2
        cases h
        exact ⟨_, ⟨f, caps, rfl, hc⟩, .refl _, hc.2.1⟩
      · cases h
    | fn f caps =>
      obtain ⟨vs, h1, h2⟩ := cloG_ok (h : cloG cx f caps ps rs = some a)
      exact ⟨_, ⟨f, vs, rfl, h2⟩, .clo h1, h2.2.1⟩
    | _ => cases h
def argsD (cx : Ctx P tb) : (l : List (PTy tb)) → List (SV tb) → Option (PArgs tb l)
  | [], [] => some ()
  | p :: l, x :: xs => got (argD cx x p) fun a => got (argsD cx l xs) fun b => some (a, b)
  | _, _ => none
theorem argsD_ok : ∀ {l : List (PTy tb)} {xs a}, argsD cx l xs = some a → ∃ vs, ArgsR P l a vs ∧ SubL (avL xs) vs ∧ allBare vs = true
  | [], [], _, h => ⟨[], trivial, .refl _, rfl⟩
  | [], _ :: _, _, h => by cases h
  | p :: l, [], _, h => by cases h
  | p :: l, x :: xs, ab, h => by
    unfold argsD at h
    obtain ⟨a, ha, h⟩ := got_e h
    obtain ⟨b, hb, h⟩ := got_e h
    cases h
    obtain ⟨v, h0, h4, h5⟩ := argD_ok ha
    obtain ⟨vs, h1, h2, h3⟩ := argsD_ok hb
    exact ⟨v :: vs, ⟨h0, h1⟩, .cons h4 h2, bare_cons h5 h3⟩
def tupC : (i : tb.Ix) → (l : List tb.Ix) → tb.T i → Tup tb l → Tup tb (i :: l)
  | _, [], a, _ => a
  | _, _ :: _, a, b => (a, b)
theorem tupC_av {i : tb.Ix} {l : List tb.Ix} {a : tb.T i} {b : Tup tb l} : tupAV (i :: l) (tupC i l a b) = tb.el i a :: tupAV l b := by
  cases l <;> rfl
def tupD (cx : Ctx P tb) : (l : List tb.Ix) → List (SV tb) → Option (Tup tb l)
  | [], xs => tst (isE xs) (some ())
  | i :: l, xs => match xs with
    | [] => none
    | x :: xs => got ((cx.cd i).of x) fun a => got (tupD cx l xs) fun b => some (tupC i l a b)
theorem tupD_ok : ∀ {l : List tb.Ix} {xs a}, tupD cx l xs = some a → SubL (avL xs) (tupAV l a) ∧ allBare (tupAV l a) = true
  | [], xs, _, h => by
    obtain ⟨h1, h⟩ := tst_e h
    rw [isE_e h1]
    exact ⟨.refl _, rfl⟩
  | i :: l, [], _, h => by cases h
  | i :: l, x :: xs, ab, h => by
    obtain ⟨a, ha, h⟩ := got_e (show got ((cx.cd i).of x) _ = some ab from h)
    obtain ⟨b, hb, h⟩ := got_e h
    cases h
    obtain ⟨h1, h2⟩ := tupD_ok hb
    rw [tupC_av]
    exact ⟨.cons ((cx.ok i).of _ _ ha) h1, bare_cons ((cx.ok i).bare a).1 h2⟩
def tupInh (cx : Ctx P tb) : (l : List tb.Ix) → Tup tb l
  | [] => ()
  | [i] => (cx.cd i).inh
  | i :: j :: r => ((cx.cd i).inh, tupInh cx (j :: r))
theorem tupAV_bare (cx : Ctx P tb) : ∀ (l : List tb.Ix) (r : Tup tb l), allBare (tupAV l r) = true
  | [], _ => rfl
  | [i], x => bare_cons ((cx.ok i).bare x).1 rfl
  | i :: j :: l, x => bare_cons ((cx.ok i).bare x.1).1 (tupAV_bare cx (j :: l) x.2)
theorem resAV_bare (cx : Ctx P tb) (l : List tb.Ix) (r : Tup tb l) : (resAV l r).isBare = true := by
  have := tupAV_bare cx l r
  unfold resAV
  cases l with
  | nil => rfl
  | cons i l =>
    cases l with
    | nil => exact ((cx.ok i).bare r).1
    | cons j l => cases l <;> exact this

/-- What a call answers. -/
def ansV (cx : Ctx P tb) (rs : List tb.Ix) (r : Tup tb rs) : SV tb := (ansS tb cx.cd [] rs r 0).1
def allFlat (cx : Ctx P tb) : List tb.Ix → Bool
  | [] => true
  | i :: l => match (cx.cd i).flat with | true => allFlat cx l | false => false
theorem tupAV_flat {cx : Ctx P tb} : ∀ {l : List tb.Ix} (r : Tup tb l), allFlat cx l = true → flatL (tupAV l r) = true
  | [], _, _ => rfl
  | [i], x, h => by
    unfold allFlat at h
    split at h
    · simp [tupAV, flatL, (cx.ok i).flat ‹_› x]
    · cases h
  | i :: j :: l, x, h => by
    unfold allFlat at h
    split at h
    · have := tupAV_flat (l := j :: l) x.2 h
      simp [tupAV, flatL, (cx.ok i).flat ‹_› x.1] at this ⊢
      exact this
    · cases h
theorem resAV_flat {cx : Ctx P tb} {l : List tb.Ix} (r : Tup tb l) (h : allFlat cx l = true) : (resAV l r).flat = true := by
  have := tupAV_flat r h
  unfold resAV
  cases l with
  | nil => rfl
  | cons i l =>
    cases l with
    | nil => simpa [tupAV, flatL, tupleOf] using this
    | cons j l => cases l <;> exact this
/-- Arguments in own blocks are lent. -/
def lent (cx : Ctx P tb) (L : SLS tb) (rs : List tb.Ix) (xs : List (SV tb)) (k : List (SV tb) → List Nat → Option ρ) : Option ρ := match nmsL xs [] with
  | [] => k xs []
  | id :: r => got (lendG L (id :: r) []) fun p => tst (allFlat cx rs) <| k (resL p.1 xs) p.2
def findHnd (f : Nat) : List (Hnd P tb) → Option (Hnd P tb)
  | [] => none
  | c :: r => match Nat.beq c.fid f with | true => some c | false => findHnd f r
theorem findHnd_f {f : Nat} : ∀ {l : List (Hnd P tb)} {c}, findHnd f l = some c → c.fid = f
  | [], _, h => by simp [findHnd] at h
  | c :: r, c', h => by
    simp only [findHnd] at h
    split at h
    · rename_i hb; cases h; exact Nat.eq_of_beq_eq_true hb
    · exact findHnd_f h
def qHand (L : SLS tb) (h : Hnd P tb) (xs : List (SV tb)) (k : SV tb → List Nat → Option ρ) : Option ρ := got (h.f xs) fun y => k y []
def qCall (cx : Ctx P tb) (L : SLS tb) (G : Gd) (y : Operand) (args : Array Operand) (k : SV tb → List Nat → Option ρ) : Option ρ :=
  got (opd L G y) fun c => got (opdsS L G args.toList) fun xs => match c with
  | .fn f caps => (match findHnd f cx.hnd with
  | some h => qHand L h (xs ++ caps) k
  | none => got (findCon f cx.Γ) fun c => tst (isE c.own) <| lent cx L c.rs (xs ++ caps) fun ys need => got (argsD cx c.ps ys) fun a => bnd G (tupInh cx c.rs) (c.cf a) fun r => k (ansV cx c.rs r) need)
  | .cl ps rs g _ _ _ => lent cx L rs xs fun ys need => got (tupD cx ps ys) fun a => bnd G (tupInh cx rs) (g a) fun r => k (ansV cx rs r) need
  | _ => none
/-- What a lent argument is to the callee. -/
theorem lent_e {L : SLS tb} {rs xs} {k : List (SV tb) → List Nat → Option ρ} {r} (h : lent cx L rs xs k = some r) :
    ∃ ys need, k ys need = some r ∧ ((ys = xs ∧ need = []) ∨ (allFlat cx rs = true ∧ ∃ g, (∃ ids, lendG L ids [] = some (g, need)) ∧ ys = resL g xs)) := by
  unfold lent at h
  split at h
  · exact ⟨_, _, h, .inl ⟨rfl, rfl⟩⟩
  · obtain ⟨p, hp, h⟩ := got_e h
    obtain ⟨hf, h⟩ := tst_e h
    exact ⟨_, _, h, .inr ⟨hf, p.1, ⟨_, hp⟩, rfl⟩⟩
theorem call_ok {L : SLS tb} {o : Oper} {fn : Nat} {rs : List tb.Ix} {x : Tup tb rs} {xs ys : List (SV tb)} {need vs} (cx : Ctx P tb)
    (hk : (ys = xs ∧ need = []) ∨ (allFlat cx rs = true ∧ ∃ g, (∃ ids, lendG L ids [] = some (g, need)) ∧ ys = resL g xs))
    (hg : SubL (avL ys) vs) (hbare : allBare vs = true) (hf : FnR P fn vs (resAV rs x) [])
    (hrun : ∀ {m bl a} (w : World), Reads o L.E m bl a → ∃ ws : List Value, (execOp a.eval o).run P w = .ok (.enter fn ws.toArray) w ∧ Reps m bl (avL xs) ws)
    (hres : resL ([] : Gn tb) xs = xs) : QEx P o L.E (needAV L need) (resAV rs x) := by
  rcases hk with ⟨rfl, rfl⟩ | ⟨hfl, g, ⟨ids, hl⟩, rfl⟩
  · refine QEx.enter (fn := fn) (ys := vs) (fun m bl ac w hrd => ?_) hf (resAV_bare cx _ _)
    obtain ⟨ws, h1, h2⟩ := hrun w hrd
    refine ⟨ws, h1, ?_⟩
    have := (hg _ _ _ h2).bare (bl' := noNames)
    rwa [bareL, bareL_of hbare] at this
  · refine QEx.enterL (fn := fn) (ys := vs) (fun B m0 h m bl ac w hws hn hrd => ?_) hf (resAV_flat x hfl)
    obtain ⟨ws, h1, h2⟩ := hrun w hrd
    obtain ⟨r', bl2, e1, e2, e3⟩ := lendG_ok cx hws (ids := ids) (g := []) (r := []) (bl1 := bl) hl hn (by simp) (fun i _ => rfl) .nil (by intro p hp; cases hp)
    refine ⟨r', ws, e1, e2, h1, ?_⟩
    have h3 := e3 xs ws (by rw [hres]; exact h2)
    have := (hg _ _ _ h3).bare (bl' := noNames)
    rwa [bareL, bareL_of hbare] at this
theorem qCall_ok {L : SLS tb} {G o y args tys} {k : SV tb → List Nat → Option ρ} {r} (ho : o.op = .call { callee := .value y, args, argTypes := tys }) (h : qCall cx L G y args k = some r) : QOk P L G o k r := by
  unfold qCall at h
  obtain ⟨c, hc, h⟩ := got_e h
  obtain ⟨xs, hxs, h⟩ := got_e h
  have hy := fun u => opd_ok (L := L) (G := G) u hc
  split at h
  · rename_i f caps _
    split at h
    · rename_i hh hf
      obtain ⟨x, hx, h⟩ := got_e (show got (hh.f (xs ++ caps)) _ = some r from h)
      obtain ⟨g1, g2, g3⟩ := hh.ok _ _ hx
      refine ⟨_, [], h, fun u => ?_⟩
      refine QEx.enter (fn := hh.fid) (ys := avL (xs ++ caps)) (fun m bl ac w hrd => ?_) g1 g3
      obtain ⟨ws, hrun, hreps⟩ := run_enter (caps := avL caps) ho (by have := hh.call; rwa [findHnd_f hf] at this) (hy u) (opdsS_ok u hxs) w hrd
      rw [findHnd_f hf]
      refine ⟨ws, hrun, ?_⟩
      rw [← avL_append] at hreps
      have := hreps.bare (bl' := noNames)
      rwa [bareL, bareL_of g2] at this
    obtain ⟨c, hc, h⟩ := got_e h
    obtain ⟨h1, h⟩ := tst_e h
    obtain ⟨ys, need, h, hk⟩ := lent_e h
    obtain ⟨a, ha, h⟩ := got_e h
    obtain ⟨vs, g1, g2, g3⟩ := argsD_ok ha
    obtain ⟨x, hx, h⟩ := bnd_e h
    refine ⟨_, need, h, fun u => ?_⟩
    unfold ansV
    rw [(ansS_av cx.cd cx.ok c.rs x 0).1]
    have hf := c.ok0 (isE_e h1) g1 ((c.cf_eq a).symm.trans (hx u.on))
    refine call_ok (fn := c.fid) cx hk g2 g3 hf (fun {m bl ac} w hrd => ?_) (resL_keep (hasL_all (q := keepQ []) (fun _ => rfl) _))
    obtain ⟨ws, hrun, hreps⟩ := run_enter (caps := avL caps) ho (by have := c.call; rwa [findCon_f hc] at this) (hy u) (opdsS_ok u hxs) w hrd
    rw [findCon_f hc]
    exact ⟨ws, hrun, by rw [avL_append]; exact hreps⟩
  · rename_i ps rs g f caps hcl _
    obtain ⟨ys, need, h, hk⟩ := lent_e h
    obtain ⟨a, ha, h⟩ := got_e h
    obtain ⟨g2, g3⟩ := tupD_ok ha
    obtain ⟨x, hx, h⟩ := bnd_e h
    refine ⟨_, need, h, fun u => ?_⟩
    unfold ansV
    rw [(ansS_av cx.cd cx.ok rs x 0).1]
    obtain ⟨q1, q2, q3⟩ := hcl
    rw [cx.hP] at q1 q3
    have hf := q3 a x (hx u.on)
    have hbc : allBare (tupAV ps a ++ caps) = true := by show cleanL _ _ = true; rw [cleanL_append]; rw [show cleanL _ (tupAV ps a) = true from g3, show cleanL _ caps = true from q2]; rfl
    rcases hk with ⟨rfl, rfl⟩ | ⟨hfl, g', ⟨ids, hl⟩, rfl⟩
    · refine QEx.enter (fn := f) (ys := tupAV ps a ++ caps) (fun m bl ac w hrd => ?_) hf (resAV_bare cx _ _)
      obtain ⟨ws, hrun, hreps⟩ := run_enter (caps := caps) ho q1 (hy u) (opdsS_ok u hxs) w hrd
      refine ⟨ws, hrun, ?_⟩
      have h4 : SubL (avL ys ++ caps) (tupAV ps a ++ caps) := g2.append (.refl _)
      have := (h4 _ _ _ hreps).bare (bl' := noNames)
      rwa [bareL, bareL_of hbc] at this
    · refine QEx.enterL (fn := f) (ys := tupAV ps a ++ caps) (fun B m0 h m bl ac w hws hn hrd => ?_) hf (resAV_flat x hfl)
      obtain ⟨ws, hrun, hreps⟩ := run_enter (caps := caps) ho q1 (hy u) (opdsS_ok u hxs) w hrd
      obtain ⟨r', bl2, e1, e2, e3⟩ := lendG_ok cx hws (ids := ids) (g := []) (r := []) (bl1 := bl) hl hn (by simp) (fun i _ => rfl) .nil (by intro p hp; cases hp)
      refine ⟨r', ws, e1, e2, hrun, ?_⟩
      obtain ⟨w1, w2, rfl, k1, k2⟩ := Reps.split hreps
      have h3 := e3 xs w1 (by rw [resL_keep (hasL_all (q := keepQ []) (fun _ => rfl) _)]; exact k1)
      have h5 := (g2 _ _ _ h3).bare (bl' := noNames)
      rw [bareL, bareL_of g3] at h5
      have h6 := (k2.mono (lend_le hws r')).bare (bl' := noNames)
      rw [bareL, bareL_of q2] at h6
      exact h5.append h6
  · cases h
end
end Go.Rx
end

section
/-
  Values in interfaces; arrays out of slices; functions whose contracts were proved by hand. Conditions: those named in each rule.
-/
set_option linter.all false
namespace Go.Rx
open Go.RowKit
variable [GlC]
section
variable {P : Program} {o : Oper} {e : Env}
def isIfD : TypeDesc → Bool
  | .interface _ => true
  | _ => false
theorem isIfD_e {d} (h : isIfD d = true) : ∃ ms, d = .interface ms := by unfold isIfD at h; split at h; exact ⟨_, rfl⟩; cases h
theorem QEx.mkIfc {t y x d} (ho : o.op = .makeInterface t y) (ht : P.underlying t = some d) (hd : isIfD d = false) (hy : OpdOk e y x) : QEx P o e [] (.ifc t x) :=
  .pure fun _ _ _ m bl ac w _ _ hr => by
    have h1 := hy.rep hr (by simp [ho, Op.operands])
    refine ⟨.iface t (ac.eval y), ?_, .ifc h1⟩
    cases d <;> first | (cases hd; done) | simp [execOp, ho, Instr.makeInterface, run_underlying_of ht]
theorem run_equalIn_ifnil {t ms} (ht : P.underlying t = some (.interface ms)) (d t' : Nat) (v : Value) (w : World) : (Op.equalIn (d + 1) t (.iface t' v) .nilIface).run P w = .ok false w := by
  simp [Op.equalIn, run_underlying_of ht]
theorem run_equalIn_nilnil {t ms} (ht : P.underlying t = some (.interface ms)) (d : Nat) (w : World) : (Op.equalIn (d + 1) t .nilIface .nilIface).run P w = .ok true w := by
  simp [Op.equalIn, run_underlying_of ht]
theorem run_eql_if (t : TypeId) (x y : Value) (w : World) (hx : (∃ t' v, x = .iface t' v) ∨ x = .nilIface) (hy : y = .nilIface) : (binOp .eql t x y).run P w = ((Op.equalIn 10000 t x y).run P w).andThen fun b w' => .ok (.bool b) w' := by
  subst hy
  rcases hx with ⟨t', v, rfl⟩ | rfl <;> simp [binOp, Op.equal, Op.maxDepth]
theorem run_neq_if (t : TypeId) (x y : Value) (w : World) (hx : (∃ t' v, x = .iface t' v) ∨ x = .nilIface) (hy : y = .nilIface) : (binOp .neq t x y).run P w = ((Op.equalIn 10000 t x y).run P w).andThen fun b w' => .ok (.bool (!b)) w' := by
  subst hy
  rcases hx with ⟨t', v, rfl⟩ | rfl <;> simp [binOp, Op.equal, Op.maxDepth]
/-- Is an interface's value nil? -/
theorem QEx.ifNil {t y yt ms x b} (neg : Bool) (ho : o.op = .binOp (if neg then .neq else .eql) t y (.const .nilIface) yt) (ht : P.underlying t = some (.interface ms)) (hy : OpdOk e y x)
    (hx : (∃ t' x', x = .ifc t' x' ∧ b = false) ∨ (x = .v .nilIface ∧ b = true)) : QEx P o e [] (.v (.bool (b != neg))) :=
  .pure fun _ _ _ m bl ac w _ _ hr => by
    have h1 := hy.rep hr (by simp [ho, Op.operands])
    have hz : ac.eval (.const .nilIface) = .nilIface := rfl
    have key : ∀ v, ac.eval y = v → ((∃ t' v', v = .iface t' v' ∧ b = false) ∨ (v = .nilIface ∧ b = true)) → (execOp ac.eval o).run P w = .ok (.value (.bool (b != neg))) w := by
      intro v hv hc
      have hg : ∀ op, (eqGuard op t y (.const .nilIface) v .nilIface).run P w = .ok () w := by
        intro op
        rcases hc with ⟨t', v', rfl, -⟩ | ⟨rfl, -⟩ <;> cases op <;> simp [eqGuard]
      have heq : (Op.equalIn 10000 t v .nilIface).run P w = .ok b w := by
        rcases hc with ⟨t', v', rfl, rfl⟩ | ⟨rfl, rfl⟩
        · exact run_equalIn_ifnil ht 9999 t' v' w
        · exact run_equalIn_nilnil ht 9999 w
      have hs : (∃ t' v', v = .iface t' v') ∨ v = .nilIface := by
        rcases hc with ⟨t', v', rfl, -⟩ | ⟨rfl, -⟩
        · exact .inl ⟨_, _, rfl⟩
        · exact .inr rfl
      cases neg with
      | false =>
        have h4 := run_eql_if (P := P) t v .nilIface w hs rfl
        rw [heq] at h4
        simp only [Result.andThen_ok] at h4
        simp [execOp, ho, hv, hz, Sem.run_bind, hg, Result.andThen_ok, h4, Sem.run_pure]
      | true =>
        have h4 := run_neq_if (P := P) t v .nilIface w hs rfl
        rw [heq] at h4
        simp only [Result.andThen_ok] at h4
        simp [execOp, ho, hv, hz, Sem.run_bind, hg, Result.andThen_ok, h4, Sem.run_pure]
    rcases hx with ⟨t', x', rfl, hb⟩ | ⟨rfl, hb⟩
    · generalize hv : ac.eval y = v at h1
      cases h1 with
      | ifc h2 => exact ⟨_, key _ hv (.inl ⟨_, _, rfl, hb⟩), .v⟩
    · have := h1.eq_v
      exact ⟨_, key _ this (.inr ⟨rfl, hb⟩), .v⟩
/-- A value taken out of an interface. -/
theorem QEx.ifcOut {y xt t x d} (ho : o.op = .typeAssert y xt t true) (ht : P.underlying t = some d) (hd : isIfD d = false) (hy : OpdOk e y (.ifc t x)) : QEx P o e [] (.tup [x, .v (.bool true)]) :=
  .pure fun _ _ _ m bl ac w _ _ hr => by
    have h1 := hy.rep hr (by simp [ho, Op.operands])
    generalize hv : ac.eval y = v at h1
    cases h1 with
    | ifc h2 =>
      rename_i v'
      refine ⟨.tuple #[v', .bool true], ?_, .tup (.cons h2 (.cons .v .nil))⟩
      cases d <;> first | (cases hd; done) | simp [execOp, ho, hv, Instr.typeAssert, run_underlying_of ht]
/-- The array that a slice's first elements are. -/
theorem QEx.arrAt {t y n E sz c l} (ho : o.op = .sliceToArrayPointer t y) (ht : P.underlying t = some (.array n E)) (hy : OpdOk e y (.sl c sz l)) (hn : n ≤ l.length) (h0 : 0 < n) (hs : 0 < sz) : QEx P o e [] (.cptr ((l.take n).flatMap AV.cells)) :=
  .pure fun _ _ _ m bl ac w _ _ hr => by
    have h1 := hy.rep hr (by simp [ho, Op.operands])
    generalize hv : ac.eval y = v at h1
    cases h1 with
    | slnil => simp at hn; omega
    | sl g1 g2 g3 g4 g5 g6 g7 =>
      rename_i a cap cs
      have hcl : (l.flatMap AV.cells).length = l.length * sz := flat_len g1
      have hlen := g2.length
      have hpos : 0 < cs.length := by
        rw [← hlen, hcl]; exact Nat.mul_pos (by omega) hs
      have hsp := g4 hpos
      have hft : (l.take n).flatMap AV.cells = (l.flatMap AV.cells).take (n * sz) := (flat_take n g1).symm
      refine ⟨.pointer (some a), ?_, ?_⟩
      · simp [execOp, ho, hv, Instr.arrayAt, run_underlying_of ht, Nat.not_lt.2 hn]
      · obtain ⟨b, off, sp⟩ := a
        simp only at hsp; subst hsp
        rw [hft]
        refine .cptr (g2.take _) (fun c hc => g3 c (List.mem_of_mem_take hc)) (fun j v e => g5 j v (take_get e))
end

section
variable {P : Program} {tb : Tb} {ρ : Type} {cx : Ctx P tb}
def isIfT (P : Program) (t : Nat) : Bool := match P.underlying t with | some d => isIfD d | none => false
theorem isIfT_e {t} (h : isIfT P t = true) : ∃ ms, P.underlying t = some (.interface ms) := by
  unfold isIfT at h
  split at h
  · obtain ⟨ms, rfl⟩ := isIfD_e h; exact ⟨ms, ‹_›⟩
  · cases h
def noIfT (P : Program) (t : Nat) : Bool := match P.underlying t with | some d => !isIfD d | none => false
theorem noIfT_e {t} (h : noIfT P t = true) : ∃ d, P.underlying t = some d ∧ isIfD d = false := by
  unfold noIfT at h
  split at h
  · exact ⟨_, ‹_›, by simpa using h⟩
  · cases h
def qMkI (P : Program) (L : SLS tb) (G : Gd) (t : Nat) (y : Operand) (k : SV tb → List Nat → Option ρ) : Option ρ :=
  got (opd L G y) fun a => tst (noIfT P t) <| k (.ifc t a) []
theorem qMkI_ok {L : SLS tb} {G o t y} {k : SV tb → List Nat → Option ρ} {r} (ho : o.op = .makeInterface t y) (h : qMkI P L G t y k = some r) : QOk P L G o k r := by
  unfold qMkI at h
  obtain ⟨a, ha, h⟩ := got_e h
  obtain ⟨h1, h⟩ := tst_e h
  obtain ⟨d, hd, hi⟩ := noIfT_e h1
  exact ⟨_, [], h, fun u => QEx.mkIfc ho hd hi (opd_ok u ha)⟩
def qOut (P : Program) (L : SLS tb) (G : Gd) (y : Operand) (t : Nat) (k : SV tb → List Nat → Option ρ) : Option ρ :=
  got (opd L G y) fun a => match a with
  | .ifc t' x => tst (Nat.beq t' t) <| tst (noIfT P t) <| k (.tup [x, .con (.bool true)]) []
  | _ => none
theorem qOut_ok {L : SLS tb} {G o y xt t} {k : SV tb → List Nat → Option ρ} {r} (ho : o.op = .typeAssert y xt t true) (h : qOut P L G y t k = some r) : QOk P L G o k r := by
  unfold qOut at h
  obtain ⟨a, ha, h⟩ := got_e h
  have hy := fun u => opd_ok (L := L) (G := G) u ha
  cases a with
  | ifc t' x =>
    obtain ⟨h1, h⟩ := tst_e (show tst (Nat.beq t' t) _ = some r from h)
    obtain ⟨h2, h⟩ := tst_e h
    have := Nat.eq_of_beq_eq_true h1
    rw [← this] at ho h2
    obtain ⟨d, hd, hi⟩ := noIfT_e h2
    exact ⟨_, [], h, fun u => QEx.ifcOut ho hd hi (hy u)⟩
  | _ => cases h
def isNilI : Operand → Bool
  | .const .nilIface => true
  | _ => false
theorem isNilI_e {z : Operand} (h : isNilI z = true) : z = .const .nilIface := by
  unfold isNilI at h
  split at h
  · rfl
  · cases h
/-- Is it an interface's value: nil? -/
def ifNilS : SV tb → Option Bool
  | .ifc _ _ => some false
  | .con .nilIface => some true
  | _ => none
theorem ifNilS_e {x : SV tb} {b} (h : ifNilS x = some b) : (∃ t' x', x.av = .ifc t' x' ∧ b = false) ∨ (x.av = .v .nilIface ∧ b = true) := by
  unfold ifNilS at h
  split at h
  · cases h; exact .inl ⟨_, _, rfl, rfl⟩
  · cases h; exact .inr ⟨rfl, rfl⟩
  · cases h
def qNilI (P : Program) (L : SLS tb) (G : Gd) (neg : Bool) (t : Nat) (y : Operand) (k : SV tb → List Nat → Option ρ) : Option ρ :=
  got (opd L G y) fun a => got (ifNilS a) fun b => tst (isIfT P t) <| k (.con (.bool (b != neg))) []
theorem qNilI_ok {L : SLS tb} {G o neg t y yt} {k : SV tb → List Nat → Option ρ} {r} (ho : o.op = .binOp (if neg then .neq else .eql) t y (.const .nilIface) yt) (h : qNilI P L G neg t y k = some r) : QOk P L G o k r := by
  unfold qNilI at h
  obtain ⟨a, ha, h⟩ := got_e h
  obtain ⟨b, hb, h⟩ := got_e h
  obtain ⟨h1, h⟩ := tst_e h
  obtain ⟨ms, hms⟩ := isIfT_e h1
  exact ⟨_, [], h, fun u => QEx.ifNil neg ho hms (opd_ok u ha) (ifNilS_e hb)⟩
/-- The cells of the elements from i on, n of them. -/
def arrK (cx : Ctx P tb) (E : tb.Ix) (l : List (tb.T E)) : Nat → Nat → List (SV tb) → (List (SV tb) → Option ρ) → Option ρ
  | _, 0, a, k => k a
  | i, n + 1, a, k => Let (ixd (cx.cd E).inh l (i : Int)) fun x => arrK cx E l (i + 1) n (a ++ (cx.cd E).cs x) k
theorem arrK_e {E : tb.Ix} {l : List (tb.T E)} : ∀ {n i : Nat} {a : List (SV tb)} {k : List (SV tb) → Option ρ} {r}, arrK cx E l i n a k = some r → i + n ≤ l.length → avL a = ((l.take i).map (tb.el E)).flatMap AV.cells →
    ∃ b, k b = some r ∧ avL b = ((l.take (i + n)).map (tb.el E)).flatMap AV.cells
  | 0, i, a, k, r, h, _, ha => ⟨a, h, ha⟩
  | n + 1, i, a, k, r, h, hl, ha => by
    have h := (show arrK cx E l (i + 1) n (a ++ (cx.cd E).cs (ixd (cx.cd E).inh l (i : Int))) k = some r from h)
    have hlt : i < l.length := by omega
    have hg := ixd_get (d := (cx.cd E).inh) (l := l) (i := (i : Int)) ⟨by omega, by omega⟩
    rw [Int.toNat_natCast] at hg
    obtain ⟨b, h1, h2⟩ := arrK_e h (by omega) (by
      rw [avL_append, ha, (cx.ok E).cs, List.take_succ, hg]
      simp)
    exact ⟨b, h1, by rw [h2, show i + 1 + n = i + (n + 1) by omega]⟩
def qArr (cx : Ctx P tb) (L : SLS tb) (G : Gd) (t : Nat) (y : Operand) (k : SV tb → List Nat → Option ρ) : Option ρ :=
  got (opd L G y) fun a => got (P.underlying t) fun D => got (isArD D) fun p => match a with
  | .sl _ E l => tst (Nat.ble 1 p.1) <| chk G (p.1 ≤ l.length) <| arrK cx E l 0 p.1 [] fun b => k (.cp b) []
  | _ => none
theorem qArr_ok {L : SLS tb} {G o t y} {k : SV tb → List Nat → Option ρ} {r} (ho : o.op = .sliceToArrayPointer t y) (h : qArr cx L G t y k = some r) (hG : G = []) : QOk P L G o k r := by
  subst hG
  unfold qArr at h
  obtain ⟨a, ha, h⟩ := got_e h
  obtain ⟨D, hD, h⟩ := got_e h
  obtain ⟨p, hp, h⟩ := got_e h
  rw [isArD_e hp] at hD
  have hy := fun u => opd_ok (L := L) (G := []) u ha
  cases a with
  | sl c E l =>
    obtain ⟨h1, h⟩ := tst_e (show tst (Nat.ble 1 p.1) _ = some r from h)
    obtain ⟨hc, h⟩ := chk_e h
    have hc := hc rfl
    obtain ⟨b, h, hb⟩ := arrK_e h (by omega) (by simp [avL])
    refine ⟨_, [], h, fun u => ?_⟩
    have := QEx.arrAt ho hD (hy u) (by rw [List.length_map]; exact hc) (Nat.le_of_ble_eq_true h1) (cx.ok E).pos
    rw [← List.map_take] at this
    simp only [SV.av]
    rw [hb, Nat.zero_add]; exact this
  | _ => cases h
/-- The slice of a whole array. -/
theorem QEx.sliceC {o : Oper} {e : Env} {t y E n sz} {l : List AV} (ho : o.op = .slice t y none none none) (hT : P.underlying t = some (.array n E)) (hs : tSz P E = some sz) (hy : OpdOk e y (.cptr (l.flatMap AV.cells)))
    (hl : l.length = n) (hc : ∀ x ∈ l, x.cells.length = sz) (h0 : 0 < n) : QEx P o e [] (.sl false sz l) :=
  .pure fun _ _ _ m bl ac w _ _ hr => by
    have h1 := hy.rep hr (by simp [ho, Op.operands])
    generalize hv : ac.eval y = v at h1
    cases h1 with
    | cptr g1 g2 g3 =>
      rename_i b off cs
      have e1 : (Instr.sliceBounds false n n none none none).run P w = .ok (0, n, n) w := by simp [Instr.sliceBounds]
      refine ⟨.slice (some ⟨b, off, none⟩) n n, ?_, ?_⟩
      · simp only [execOp, ho, hv, Instr.sliceAt, Sem.run_bind, run_underlying_of hT, Result.andThen_ok, Instr.sureAddr, Option.map_none, e1, run_sizeOf_of hs, Sem.run_pure]
        simp [Nat.ne_of_gt h0, addr_add]
      · subst hl
        exact .sl hc g1 g2 (fun _ => rfl) g3 (Nat.le_refl _) (fun h => by cases h)
def chopC (cx : Ctx P tb) (E : tb.Ix) : Nat → List (SV tb) → Option (List (tb.T E))
  | 0, l => match l with | [] => some [] | _ :: _ => none
  | n + 1, l => got ((cx.cd E).ofC (l.take (tb.sz E))) fun z => got (chopC cx E n (l.drop (tb.sz E))) fun r => some (z :: r)
theorem chopC_ok {E : tb.Ix} : ∀ {n : Nat} {l : List (SV tb)} {r}, chopC cx E n l = some r → SubL (avL l) (elC tb E r) ∧ r.length = n
  | 0, l, r, h => by
    cases l with
    | nil => cases h; exact ⟨.refl _, rfl⟩
    | cons => cases h
  | n + 1, l, r, h => by
    obtain ⟨z, hz, h⟩ := got_e (show got ((cx.cd E).ofC (l.take (tb.sz E))) _ = some r from h)
    obtain ⟨r', hr, h⟩ := got_e h
    cases h
    have h1 := ((cx.ok E).ofC _ _ hz).1
    obtain ⟨g1, g2⟩ := chopC_ok hr
    have h2 := h1.append g1
    rw [← avL_append, List.take_append_drop] at h2
    exact ⟨h2, by rw [List.length_cons, g2]⟩
def qArrS (cx : Ctx P tb) (L : SLS tb) (G : Gd) (t : Nat) (y : Operand) (k : SV tb → List Nat → Option ρ) : Option ρ :=
  got (opd L G y) fun a => got (P.underlying t) fun D => got (isArD D) fun p => got (tSz P p.2) fun n => got (tb.look p.2) fun E => match a with
  | .cp l => tst (Nat.beq n (tb.sz E)) <| tst (Nat.ble 1 p.1) <| got (chopC cx E p.1 l) fun r => k (.sl false E r) []
  | _ => none
theorem qArrS_ok {L : SLS tb} {G o t y} {k : SV tb → List Nat → Option ρ} {r} (ho : o.op = .slice t y none none none) (h : qArrS cx L G t y k = some r) : QOk P L G o k r := by
  unfold qArrS at h
  obtain ⟨a, ha, h⟩ := got_e h
  obtain ⟨D, hD, h⟩ := got_e h
  obtain ⟨p, hp, h⟩ := got_e h
  rw [isArD_e hp] at hD
  obtain ⟨n, hn, h⟩ := got_e h
  obtain ⟨E, hE, h⟩ := got_e h
  have hy := fun u => opd_ok (L := L) (G := G) u ha
  cases a with
  | cp l =>
    have g1 := tst_e h
    have g2 := tst_e g1.2
    obtain ⟨q, hq, g3⟩ := got_e g2.2
    obtain ⟨c1, c2⟩ := chopC_ok hq
    refine ⟨_, [], g3, fun u => ?_⟩
    rw [Nat.eq_of_beq_eq_true g1.1] at hn
    have hy2 : OpdOk L.E y (.cptr ((q.map (tb.el E)).flatMap AV.cells)) := (hy u).sub (.cptr c1)
    exact QEx.sliceC ho hD hn hy2 (by rw [List.length_map]; exact c2) (elC_len cx.ok) (Nat.le_of_ble_eq_true g2.1)
  | _ => cases h
/-- Is it memory that is written no more? -/
def isCp : Option (SV tb) → Bool
  | some (.cp _) => true
  | _ => false
end
end Go.Rx
end

section
/-
  An own slice clipped to its length. Conditions: those named in each rule.
-/
set_option linter.all false
namespace Go.Rx
open Go.RowKit
variable [GlC]
section
variable {P : Program} {o : Oper} {e : Env}
/-- s[:len(s):len(s)] of an own slice: the same slice, without spare capacity. -/
theorem QEx.slice3R {t y hi mx E sz by_ id k k' need} {xs : List AV} (ho : o.op = .slice t y none (some hi) (some mx)) (ht : ElemT P t E sz by_) (hy : OpdOk e y (.rw id sz)) (hn : (id, xs.flatMap AV.cells) ∈ need) (hxs : ∀ x ∈ xs, x.cells.length = sz) (hp : 0 < sz)
    (hhi : OpdOk e hi (.v (.int k xs.length))) (hmx : OpdOk e mx (.v (.int k' xs.length))) : QEx P o e need (.rw id sz) :=
  .pure fun _ _ _ m bl ac w hws hnd hr => by
    have q1 := hy.rep hr (by simp [ho, Op.operands])
    have q2 := (hhi.rep hr (by simp [ho, Op.operands])).eq_v
    have q3 := (hmx.rep hr (by simp [ho, Op.operands])).eq_v
    generalize hv : ac.eval y = v at q1
    have hf := hnd _ hn
    have hfl := flat_len hxs
    cases q1 with
    | rwnil hb =>
      rename_i ad
      have : xs = [] := by
        rcases hws.blk id _ hf with ⟨-, g⟩ | ⟨b, n, arr, T, pre, rest, g1, -⟩
        · rw [show (xs.flatMap AV.cells) = [] from g] at hfl
          rcases Nat.mul_eq_zero.1 (show xs.length * sz = 0 by rw [← hfl]; rfl) with h | h
          · exact List.eq_nil_of_length_eq_zero h
          · omega
        · rw [g1] at hb; cases hb
      subst this
      refine ⟨.slice ad 0 0, ?_, .rwnil hb⟩
      simp [execOp, ho, hv, Instr.sliceAt, run_underlying_of ht.under, Instr.slice, Instr.sliceBounds, q2, q3, Instr.sliceBound, asIntOf, run_sizeOf_of ht.sz, Addr.add]
    | rw hb g1 g2 g3 =>
      rename_i b n cap len
      obtain ⟨arr, T, pre, rest, r1, r2, r3, r4, r5⟩ := hws.at_ hf hb
      have hn2 : n.2 = pre.length := by rw [← r2]
      have : len = xs.length := Nat.eq_of_mul_eq_mul_right hp (by rw [g1, hn2, ← r4.length, hfl])
      subst this
      refine ⟨.slice (some ⟨b, 0, none⟩) xs.length xs.length, ?_, .rw hb g1 (Nat.le_refl _) (Nat.le_trans (Nat.mul_le_mul_right _ g2) g3)⟩
      have hc : (xs.length : Int) ≤ (cap : Int) := by omega
      have h0 : 0 ≤ (xs.length : Int) := by omega
      simp [execOp, ho, hv, Instr.sliceAt, run_underlying_of ht.under, Instr.slice, Instr.sliceBounds, q2, q3, Instr.sliceBound, asIntOf, run_sizeOf_of ht.sz, Addr.add, h0, hc]
      try (intro h; omega)
end
section
variable {P : Program} {tb : Tb} {ρ : Type} {cx : Ctx P tb}
def qSlice3R (L : SLS tb) (G : Gd) (t id : Nat) (E : tb.Ix) (hi mx : Operand) (P : Program) (k : SV tb → List Nat → Option ρ) : Option ρ :=
  got (opd L G hi) fun b => got (asI b) fun p => got (opd L G mx) fun c => got (asI c) fun q => got (elemT P t (tb.sz E)) fun _ => got (arrAt L id E) fun l => chk G (p.2 = (l.length : Int) ∧ q.2 = (l.length : Int)) (k (.rw id E) [id])
def qSlice3W (cx : Ctx P tb) (L : SLS tb) (G : Gd) (t : Nat) (y hi mx : Operand) (k : SV tb → List Nat → Option ρ) : Option ρ := match opd L G y with
  | some (.rw id E) => qSlice3R L G t id E hi mx P k
  | _ => qSlice3 P L G t y hi mx k
theorem qSlice3W_ok {L : SLS tb} {G o t y hi mx} {k : SV tb → List Nat → Option ρ} {r} (ho : o.op = .slice t y none (some hi) (some mx)) (h : qSlice3W cx L G t y hi mx k = some r) : QOk P L G o k r := by
  unfold qSlice3W at h
  split at h
  · rename_i id E ha
    unfold qSlice3R at h
    obtain ⟨b, hb, h⟩ := got_e h
    obtain ⟨p, hp, h⟩ := got_e h
    obtain ⟨c, hc1, h⟩ := got_e h
    obtain ⟨q, hq, h⟩ := got_e h
    obtain ⟨ET, hE, h⟩ := got_e h
    obtain ⟨l, hl, h⟩ := got_e h
    have hl := arrAt_e hl
    obtain ⟨hc, h⟩ := chk_e h
    have hy := fun u => opd_ok (L := L) (G := G) u ha
    have hz := fun u => opd_ok (L := L) (G := G) u hb
    have hw := fun u => opd_ok (L := L) (G := G) u hc1
    rw [asI_e hp] at hz
    rw [asI_e hq] at hw
    refine ⟨_, _, h, fun u => ?_⟩
    rw [needAV_one hl]
    obtain ⟨h1, h2⟩ := hc u.on
    rw [h1] at hz
    rw [h2] at hw
    exact QEx.slice3R (xs := l.map (tb.el E)) ho (elemT_e hE) (hy u) (show _ ∈ [(id, elC tb E l)] from mem1) (elC_len cx.ok) (cx.ok E).pos (by rw [List.length_map]; exact hz u) (by rw [List.length_map]; exact hw u)
  · exact qSlice3_ok ho h
end
end Go.Rx
end

section
/-
  Operations run on symbolic states: those that change them here and there. No conditions.
-/
set_option linter.all false
namespace Go.Rx
open Go.RowKit
variable [GlC]

section
variable {P : Program} {tb : Tb} {ρ : Type} {cx : Ctx P tb}

def args1 (c : Call) : Option (Operand × Nat) := match c.args.toList, c.argTypes.toList with
  | [y], [t] => some (y, t)
  | _, _ => none
theorem args1_e {c : Call} {p} (h : args1 c = some p) : c.args = #[p.1] ∧ c.argTypes = #[p.2] := by
  unfold args1 at h
  split at h
  · rename_i y t h1 h2
    cases h
    exact ⟨Array.toArray_toList.symm.trans (by rw [h1]), Array.toArray_toList.symm.trans (by rw [h2])⟩
  · cases h
def args2 (c : Call) : Option (Operand × Operand) := match c.args.toList with
  | [y, z] => some (y, z)
  | _ => none
theorem args2_e {c : Call} {p} (h : args2 c = some p) : c.args = #[p.1, p.2] := by
  unfold args2 at h
  split at h
  · rename_i y z h1
    cases h
    exact Array.toArray_toList.symm.trans (by rw [h1])
  · cases h
def types2 (c : Call) : Option (Nat × Nat) := match c.argTypes.toList with
  | [y, z] => some (y, z)
  | _ => none
theorem types2_e {c : Call} {p} (h : types2 c = some p) : c.argTypes = #[p.1, p.2] := by
  unfold types2 at h
  split at h
  · rename_i y z h1
    cases h
    exact Array.toArray_toList.symm.trans (by rw [h1])
  · cases h

def qCallD (cx : Ctx P tb) (L : SLS tb) (G : Gd) (c : Call) (k : SV tb → List Nat → Option ρ) : Option ρ := match c.callee with
  | .value y => qCall cx L G y c.args k
  | .builtin b => (match b with
    | .len => got (args1 c) fun p => qLen2 cx L G p.1 p.2 k
    | .cap => got (args1 c) fun p => qCap P L G p.1 p.2 k
    | .max => got (args2 c) fun p => qMM L G true p.1 p.2 k
    | .min => got (args2 c) fun p => qMM L G false p.1 p.2 k
    | _ => none)
  | _ => none
theorem qCallD_ok {L : SLS tb} {G o c} {k : SV tb → List Nat → Option ρ} {r} (ho : o.op = .call c) (h : qCallD cx L G c k = some r) : QOk P L G o k r := by
  obtain ⟨ce, ar, ty⟩ := c
  unfold qCallD at h
  split at h
  · rename_i y hy
    simp only at hy; subst hy
    exact qCall_ok (cx := cx) ho h
  · rename_i b hb
    simp only at hb; subst hb
    split at h
    · obtain ⟨p, hp, h⟩ := got_e h
      obtain ⟨h1, h2⟩ := args1_e hp
      simp only at h1 h2; subst h1 h2
      exact qLen2_ok (cx := cx) ho h
    · obtain ⟨p, hp, h⟩ := got_e h
      obtain ⟨h1, h2⟩ := args1_e hp
      simp only at h1 h2; subst h1 h2
      exact qCap_ok ho h
    · obtain ⟨p, hp, h⟩ := got_e h
      have h1 := args2_e hp
      simp only at h1; subst h1
      exact qMM_ok (.inl ⟨rfl, ho⟩) h
    · obtain ⟨p, hp, h⟩ := got_e h
      have h1 := args2_e hp
      simp only at h1; subst h1
      exact qMM_ok (.inr ⟨rfl, ho⟩) h
    · cases h
  · cases h
def qop (cx : Ctx P tb) (L : SLS tb) (G : Gd) (op : Op) (k : SV tb → List Nat → Option ρ) : Option ρ := match op with
  | .move y => qMove L G y k
  | .assign y => qMove L G y k
  | .pick c y z => qPick L G c y z k
  | .load t y => qLoad cx L G t y k
  | .nilCheck y => qNil L G y k
  | .binOp op t y z yt => (match isNilI z with
    | true => (match op with
      | .eql => qNilI P L G false t y k
      | .neq => qNilI P L G true t y k
      | _ => none)
    | false => qBin cx L G op t y z yt k)
  | .unOp op _ y => qUn L G op y k
  | .convert s d y => qConv2 cx L G s d y k
  | .slice t y lo hi mx => (match mx with
    | none => (match lo, hi, isCp (opd L G y) with
      | none, none, true => qArrS cx L G t y k
      | _, _, _ => qSliceN cx L G t y lo hi k)
    | some m => match lo, hi with
      | none, some h => qSlice3W cx L G t y h m k
      | some l, some h => qSlice3U cx L G t y l h m k
      | _, _ => none)
  | .fieldAddr t y f => qFieldA P L G t y f k
  | .field t y f => qField P L G t y f k
  | .indexAddr t y z => qIxA cx L G t y z k
  | .index t y z => qIx cx L G t y z k
  | .extract y i => qExt L G y i k
  | .build t ps => qBuild P L G t ps k
  | .buildSlice t n ps => qBuildS cx L G t n ps k
  | .makeFunc fn fi ca => qMkF L G fn fi ca k
  | .call c => qCallD cx L G c k
  | .makeInterface t y => qMkI P L G t y k
  | .typeAssert y _ t true => qOut P L G y t k
  | .sliceToArrayPointer t y => (match G with
    | [] => qArr cx L [] t y k
    | _ :: _ => none)
  | _ => none
theorem qop_ok {L : SLS tb} {G o} {k : SV tb → List Nat → Option ρ} {r} (h : qop cx L G o.op k = some r) : QOk P L G o k r := by
  unfold qop at h
  split at h
  · exact qMove_ok (.inl ‹_›) h
  · exact qMove_ok (.inr ‹_›) h
  · exact qPick_ok ‹_› h
  · exact qLoad_ok (cx := cx) ‹_› h
  · exact qNil_ok ‹_› h
  · rename_i ho
    split at h
    · rename_i hz
      rw [isNilI_e hz] at ho
      split at h
      · exact qNilI_ok (neg := false) ho h
      · exact qNilI_ok (neg := true) ho h
      · cases h
    · exact qBin_ok (cx := cx) ho h
  · exact qUn_ok ‹_› h
  · exact qConv2_ok (cx := cx) ‹_› h
  · split at h
    · split at h
      · exact qArrS_ok (cx := cx) ‹_› h
      · exact qSliceN_ok (cx := cx) ‹_› h
    · split at h
      · exact qSlice3W_ok (cx := cx) ‹_› h
      · exact qSlice3U_ok (cx := cx) ‹_› h
      · cases h
  · exact qFieldA_ok ‹_› h
  · exact qField_ok ‹_› h
  · exact qIxA_ok (cx := cx) ‹_› h
  · exact qIx_ok (cx := cx) ‹_› h
  · exact qExt_ok ‹_› h
  · exact qBuild_ok ‹_› h
  · exact qBuildS_ok (cx := cx) ‹_› h
  · exact qMkF_ok ‹_› h
  · exact qCallD_ok (cx := cx) ‹_› h
  · exact qMkI_ok ‹_› h
  · exact qOut_ok ‹_› h
  · split at h
    · exact qArr_ok (cx := cx) ‹_› h rfl
    · cases h
  · cases h

/-- The keys of what an operation looks at and writes. -/
structure KL where
  re : List Nat
  rh : List Nat
  we : List Nat
  wh : List Nat
  nm : List Nat
structure KOf (c : Loc) (κ : KL) : Prop where
  re : ∀ p ∈ c.re, p.1 ∈ κ.re
  rh : ∀ p ∈ c.rh, p.1 ∈ κ.rh
  we : ∀ p ∈ c.we, p.1 ∈ κ.we
  wh : ∀ p ∈ c.wh, p.1 ∈ κ.wh
  nm : c.nm = κ.nm
theorem reOf_keys {e : Env} : ∀ {ts : List Nat}, ∀ p ∈ reOf e ts, p.1 ∈ ts
  | [], p, h => by simp [reOf] at h
  | t :: ts, p, h => by
    simp only [reOf] at h
    split at h
    · rcases List.mem_cons.1 h with rfl | h
      · exact List.mem_cons_self
      · exact List.mem_cons_of_mem _ (reOf_keys p h)
    · exact List.mem_cons_of_mem _ (reOf_keys p h)
theorem needAV_keys {L : SLS tb} : ∀ {ids}, ∀ p ∈ needAV L ids, p.1 ∈ ids
  | [], p, h => by simp [needAV] at h
  | id :: r, p, h => by
    simp only [needAV] at h
    split at h
    · rcases List.mem_cons.1 h with rfl | h
      · exact List.mem_cons_self
      · exact List.mem_cons_of_mem _ (needAV_keys p h)
    · exact List.mem_cons_of_mem _ (needAV_keys p h)

/-- What the slots in gs guard. -/
def RI (gs : List Nat) (e : SEnv tb) : Prop := ∀ t G x, find t e = some (.opt G x) → GD e G ∧ G ≠ [] ∧ ∀ g ∈ G, g.1 ∈ gs
theorem RI.inv {gs} {e : SEnv tb} (h : RI gs e) : GInv e := fun t G x hf => ⟨(h t G x hf).1, (h t G x hf).2.1⟩
def notOpt : SV tb → Bool
  | .opt _ _ => false
  | _ => true
def memN (d : Nat) : List Nat → Bool
  | [] => false
  | x :: l => match Nat.beq d x with | true => true | false => memN d l
theorem memN_e {d : Nat} : ∀ {l : List Nat}, memN d l = true ↔ d ∈ l
  | [] => by simp [memN]
  | x :: l => by
    simp only [memN, List.mem_cons]
    split
    · rename_i h; simp [Nat.eq_of_beq_eq_true h]
    · rename_i h
      have : d ≠ x := fun e => by subst e; rw [Nat.beq_refl] at h; cases h
      rw [memN_e]; simp [this]
theorem GD.put {e : SEnv tb} {d x} : ∀ {G : Gd}, GD e G → (∀ g ∈ G, g.1 ≠ d) → GD ((d, x) :: e) G
  | [], _, _ => trivial
  | (s, w, t) :: G, h, hn => by
    obtain ⟨h1, y, hy, h2⟩ := h
    have hs : d ≠ s := Ne.symm (hn (s, w, t) (by simp))
    refine ⟨GD.put h1 fun g hg => hn g (List.mem_cons_of_mem _ hg), y, hy, ?_⟩
    rw [find_cons, if_neg hs]
    exact h2
theorem RI.put {gs} {e : SEnv tb} {d x} (h : RI gs e) (hd : memN d gs = false) (hx : notOpt x = true) : RI gs ((d, x) :: e) := by
  have hd' : ∀ g ∈ gs, g ≠ d := by rintro g hg rfl; rw [memN_e.2 hg] at hd; cases hd
  intro t G y hf
  rw [find_cons] at hf
  split at hf
  · cases hf; cases hx
  · obtain ⟨h1, h2, h3⟩ := h t G y hf
    exact ⟨h1.put fun g hg => hd' _ (h3 g hg), h2, h3⟩
theorem RI.putG {gs} {e : SEnv tb} {d x s G} (h : RI gs e) (hd : memN d (s :: gs) = false) (hG : GD e G) (h0 : G ≠ []) (hs : ∀ g ∈ G, g.1 ∈ s :: gs) : RI (s :: gs) ((d, .opt G x) :: e) := by
  have hd' : ∀ g ∈ s :: gs, g ≠ d := by rintro g hg rfl; rw [memN_e.2 hg] at hd; cases hd
  intro t G' y hf
  rw [find_cons] at hf
  split at hf
  · cases hf
    exact ⟨hG.put fun g hg => hd' _ (hs g hg), h0, hs⟩
  · obtain ⟨h1, h2, h3⟩ := h t G' y hf
    have h4 : ∀ g ∈ G', g.1 ∈ s :: gs := fun g hg => List.mem_cons_of_mem _ (h3 g hg)
    exact ⟨h1.put fun g hg => hd' _ (h4 g hg), h2, h4⟩

/-- What an operation does to the state here and there: it goes on with L'. -/
def LOk (P : Program) (N : Nat) (ops : Array Oper) (o : Oper) (L : SLS tb) (k : SLS tb → List Nat → KL → Option ρ) (r : ρ) : Prop :=
  ∃ (L' : SLS tb) (gs : List Nat) (κ : KL) (c : Loc), k L' gs κ = some r ∧ KOf c κ ∧ LEx P ops N o c ∧ (∀ p ∈ c.re, find p.1 L.av.e = some p.2) ∧ (∀ p ∈ c.rh, find p.1 L.av.h = some p.2) ∧
    (∀ d ∈ c.nm, L.nx ≤ d ∧ d < L'.nx) ∧ L.nx ≤ L'.nx ∧ L'.s = L.s ∧ L'.gn = L.gn ∧ L'.av.e = c.we ++ L.av.e ∧ L'.av.h = c.wh ++ L.av.h ∧
    (∃ p, L'.e = p ++ L.e) ∧ (∃ p, L'.h = p ++ L.h) ∧ RI gs L'.e

/-- The slot d holds x. -/
def put (N : Nat) (gs : List Nat) (L : SLS tb) (d : Nat) (x : SV tb) (k : SLS tb → Option ρ) : Option ρ :=
  tst (Nat.blt d N) <| tst (!memN d gs) <| tst (x.has (keepQ L.gn)) <| k { L with e := (d, x) :: L.e }
theorem put_e {N gs} {L : SLS tb} {d x} {k : SLS tb → Option ρ} {r} (h : put N gs L d x k = some r) : d < N ∧ memN d gs = false ∧ x.res L.gn = x ∧ k { L with e := (d, x) :: L.e } = some r := by
  obtain ⟨h1, h⟩ := tst_e h
  obtain ⟨h2, h⟩ := tst_e h
  obtain ⟨h3, h⟩ := tst_e h
  exact ⟨Nat.le_of_ble_eq_true h1, by simpa using h2, res_keep h3, h⟩

/-- An operation that only yields a value. -/
def lq (cx : Ctx P tb) (N : Nat) (ops : Array Oper) (L : SLS tb) (gs : List Nat) (o : Oper) (k : SLS tb → List Nat → KL → Option ρ) : Option ρ :=
  qop cx L [] o.op fun x need => match o.dst with
  | some d => tst (notOpt x) <| put N gs L d x fun L' => k L' gs ⟨o.looksAt ops, need, [d], [], []⟩
  | none => k L gs ⟨o.looksAt ops, need, [], [], []⟩
theorem Gu.nil {L : SLS tb} (h : GInv L.e) : Gu L [] := ⟨h, trivial, rfl⟩
theorem needH_keys {L : SLS tb} {need} : ∀ p ∈ needH (needAV L need), p.1 ∈ need := by
  intro p hp
  obtain ⟨p', hp', rfl⟩ := List.mem_map.1 hp
  exact needAV_keys p' hp'
theorem lq_ok {N ops} {L : SLS tb} {gs o} {k : SLS tb → List Nat → KL → Option ρ} {r} (hi : RI gs L.e) (hg : o.guard = none) (h : lq cx N ops L gs o k = some r) : LOk P N ops o L k r := by
  unfold lq at h
  obtain ⟨x, need, h, q⟩ := qop_ok (cx := cx) h
  have q := q (Gu.nil hi.inv)
  split at h
  · rename_i d hd
    obtain ⟨ho, h⟩ := tst_e h
    obtain ⟨hN, hm, hx, h⟩ := put_e h
    refine ⟨_, _, _, _, h, ⟨reOf_keys, needH_keys, by simp, by simp, rfl⟩, LEx.q hg q hd hN, reOf_mem.1, needH_mem.2 needAV_mem, by simp, Nat.le_refl _, rfl, rfl, ?_, rfl, ⟨[_], rfl⟩, ⟨[], rfl⟩, hi.put hm ho⟩
    show (d, (x.res L.gn).av) :: _ = _
    rw [hx]; rfl
  · rename_i hd
    exact ⟨_, _, _, _, h, ⟨reOf_keys, needH_keys, by simp, by simp, rfl⟩, LEx.qn hg q hd, reOf_mem.1, needH_mem.2 needAV_mem, by simp, Nat.le_refl _, rfl, rfl, rfl, rfl, ⟨[], rfl⟩, ⟨[], rfl⟩, hi⟩
/-- The same under a guard. -/
def lg (cx : Ctx P tb) (N : Nat) (ops : Array Oper) (L : SLS tb) (gs : List Nat) (o : Oper) (j : Nat) (w : Bool) (k : SLS tb → List Nat → KL → Option ρ) : Option ρ :=
  got o.dst fun d => got ((ops[j]?).bind (·.dst)) fun s => got (gdAt L.e s w) fun G =>
  qop cx L G o.op fun x need => put N (s :: gs) L d (.opt G x) fun L' => k L' (s :: gs) ⟨o.looksAt ops, need, [d], [], []⟩
theorem gdAt_gs {gs} {e : SEnv tb} {s w G} (hi : RI gs e) (h : gdAt e s w = some G) : ∃ b G', G = (s, w, b) :: G' ∧ GD e G ∧ ∀ g ∈ G, g.1 ∈ s :: gs := by
  unfold gdAt at h
  split at h
  · rename_i G' y hf
    split at h
    · cases h
    · rename_i g G'
      split at h
      · rename_i b hb
        cases h
        obtain ⟨h1, h2, h3⟩ := hi _ _ _ hf
        refine ⟨b, g :: G', rfl, ⟨h1, y, hb, .inr ⟨hf, by simp⟩⟩, ?_⟩
        intro p hp
        rcases List.mem_cons.1 hp with rfl | hp
        · simp
        · exact List.mem_cons_of_mem _ (h3 p hp)
      · cases h
  · rename_i y hne hf
    split at h
    · rename_i b hb
      cases h
      exact ⟨b, [], rfl, ⟨trivial, y, hb, .inl ⟨hf, rfl⟩⟩, by simp⟩
    · cases h
  · cases h
theorem lg_ok {N ops} {L : SLS tb} {gs o j w} {k : SLS tb → List Nat → KL → Option ρ} {r} (hi : RI gs L.e) (hg : o.guard = some (j, w)) (h : lg cx N ops L gs o j w k = some r) : LOk P N ops o L k r := by
  unfold lg at h
  obtain ⟨d, hd, h⟩ := got_e h
  obtain ⟨s, hs, h⟩ := got_e h
  obtain ⟨G, hG, h⟩ := got_e h
  obtain ⟨x, need, h, q⟩ := qop_ok (cx := cx) h
  obtain ⟨hN, hm, hx, h⟩ := put_e h
  obtain ⟨b, G', rfl, hGD, hgs⟩ := gdAt_gs hi hG
  have hc : gc ((s, w, b) :: G') = (gc G' && (b == w)) := by rw [gc_eq, gc_eq]; rfl
  refine ⟨_, _, _, _, h, ⟨reOf_keys, needH_keys, by simp, by simp, rfl⟩, LEx.g (x := x.av) (c := gc G') (t := b) hg hs hGD.gv (fun hc2 => q ⟨hi.inv, hGD, by rw [hc]; exact hc2⟩) hd hN, reOf_mem.1, needH_mem.2 needAV_mem, by simp, Nat.le_refl _, rfl, rfl, ?_, rfl, ⟨[_], rfl⟩, ⟨[], rfl⟩, hi.putG hm hGD (by simp) hgs⟩
  show (d, ((SV.opt _ x).res L.gn).av) :: _ = _
  rw [hx]
  show (d, AV.opt (gc ((s, w, b) :: G')) x.av) :: _ = _
  rw [hc]; rfl
end
end Go.Rx
end

section
/-
  Operations that write, run on symbolic states. No conditions.
-/
set_option linter.all false
namespace Go.Rx
open Go.RowKit
variable [GlC]

theorem WSim.subB {B m0 id Z Z' h m bl w} (s : WSim B m0 ((id, .cells Z) :: h) m bl w) (hs : SubL Z Z') : WSim B m0 ((id, .cells Z') :: h) m bl w := by
  refine ⟨s.imm, s.le, s.grow, ?_, ?_, s.own, s.inj, s.gl⟩
  · intro i l hf
    rw [find_cons] at hf
    split at hf
    · rename_i hi; subst hi
      cases hf
      rcases s.blk id Z (by rw [find_cons, if_pos rfl]) with ⟨h1, h2⟩ | ⟨b, n, arr, T, pre, rest, g1, g2, g3, g4, g5, g6⟩
      · refine .inl ⟨h1, ?_⟩
        subst h2
        have := hs m bl [] .nil
        cases this; rfl
      · exact .inr ⟨b, n, arr, T, pre, rest, g1, g2, g3, g4, hs _ _ _ g5, g6⟩
    · rename_i hi
      exact s.blk i l (by rw [find_cons, if_neg hi]; exact hf)
  · intro i x p hf
    rw [find_cons] at hf
    split at hf
    · cases hf
    · rename_i hi
      exact s.it i x p (by rw [find_cons, if_neg hi]; exact hf)
/-- What is written is told otherwise. -/
theorem LEx.wsub {P ops N o re rh we id Z Z' nm} (h : LEx P ops N o ⟨re, rh, we, [(id, .cells Z)], nm⟩) (hs : SubL Z Z') : LEx P ops N o ⟨re, rh, we, [(id, .cells Z')], nm⟩ := by
  intro e s h0 f f' h1 h2 h3 h4 W0 m0 sa m bl a w S next Q k
  refine h e s h0 f f' h1 h2 h3 h4 W0 m0 sa m bl a w S next Q ?_
  intro a' w' m' bl' S'
  exact k a' w' m' bl' ⟨S'.defers, S'.size, S'.below, S'.ws.subB hs, S'.env, S'.stk, S'.free⟩

section
variable {P : Program} {tb : Tb} {ρ : Type} {cx : Ctx P tb}

/-- The block id holds c. -/
def putH (L : SLS tb) (id : Nat) (c : SC tb) (k : SLS tb → Option ρ) : Option ρ := tst (keepQ L.gn id) <| tst (c.has (keepQ L.gn)) <| k { L with h := (id, c) :: L.h }
theorem SC.res_keep {g : Gn tb} {c : SC tb} (h : c.has (keepQ g) = true) : c.res g = c := by
  cases c with
  | cells l => show SC.cells _ = _; rw [resL_keep h]
  | arr E l => rfl
  | iter s p => rfl
theorem putH_e {L : SLS tb} {id c} {k : SLS tb → Option ρ} {r} (h : putH L id c k = some r) : avH L.gn ((id, c) :: L.h) = (id, c.av) :: avH L.gn L.h ∧ k { L with h := (id, c) :: L.h } = some r := by
  obtain ⟨h1, h⟩ := tst_e h
  obtain ⟨h2, h⟩ := tst_e h
  refine ⟨?_, h⟩
  unfold avH
  rw [List.filter_cons, if_pos h1, List.map_cons, SC.res_keep h2]
/-- A new block that the slot d points to. -/
def putN (N : Nat) (gs : List Nat) (L : SLS tb) (d : Nat) (x : SV tb) (c : SC tb) (k : SLS tb → Option ρ) : Option ρ :=
  tst (notOpt x) <| put N gs L d x fun L' => putH L' L.nx c fun L'' => k { L'' with nx := L.nx + 1 }

/-- Cells as elements. -/
def chop (cx : Ctx P tb) (E : tb.Ix) : Nat → List (SV tb) → Option (List (tb.T E))
  | 0, l => tst (isE l) (some [])
  | n + 1, l => got ((cx.cd E).ofC (l.take (tb.sz E))) fun z => got (chop cx E n (l.drop (tb.sz E))) fun r => some (z :: r)
theorem chop_ok {E : tb.Ix} : ∀ {n : Nat} {l : List (SV tb)} {r}, chop cx E n l = some r → SubL (avL l) (elC tb E r)
  | 0, l, r, h => by
    obtain ⟨h1, h⟩ := tst_e h
    cases h
    rw [isE_e h1]; exact .refl _
  | n + 1, l, r, h => by
    obtain ⟨z, hz, h⟩ := got_e (show got ((cx.cd E).ofC (l.take (tb.sz E))) _ = some r from h)
    obtain ⟨r', hr, h⟩ := got_e h
    cases h
    have h1 := ((cx.ok E).ofC _ _ hz).1
    have h2 := h1.append (chop_ok hr)
    rw [← avL_append, List.take_append_drop] at h2
    exact h2
def bigAr : TypeDesc → Option (Nat × Nat)
  | .array n e => match Nat.blt 4 n with | true => some (n, e) | false => none
  | _ => none
def someAr : TypeDesc → Option (Nat × Nat)
  | .array n e => some (n, e)
  | _ => none
def lAlloc (cx : Ctx P tb) (N : Nat) (ops : Array Oper) (L : SLS tb) (gs : List Nat) (o : Oper) (T : Nat) (im : Bool) (k : SLS tb → List Nat → KL → Option ρ) : Option ρ :=
  got o.dst fun d => got (zeroS P T) fun Z => match (P.underlying T).bind (match im with | true => someAr | false => bigAr) with
  | some p => got (tb.look p.2) fun E => got (chop cx E p.1 Z) fun l => putN N gs L d (.ptr L.nx 0) (.arr E l) fun L' => k L' gs ⟨o.looksAt ops, [], [d], [L.nx], [L.nx]⟩
  | none => putN N gs L d (.ptr L.nx 0) (.cells Z) fun L' => k L' gs ⟨o.looksAt ops, [], [d], [L.nx], [L.nx]⟩
theorem putN_ok {N ops} {L : SLS tb} {gs o d x c Z} {rh : Hp} {k : SLS tb → List Nat → KL → Option ρ} {κ r} (hi : RI gs L.e) (hc : c.av = .cells Z)
    (hl : d < N → LEx P ops N o ⟨reOf L.E (o.looksAt ops), rh, [(d, x.av)], [(L.nx, .cells Z)], [L.nx]⟩) (hrh : ∀ p ∈ rh, find p.1 L.av.h = some p.2) (hk : ∀ p ∈ rh, p.1 ∈ κ.rh) (h1 : κ.re = o.looksAt ops) (h2 : κ.we = [d]) (h3 : κ.wh = [L.nx]) (h4 : κ.nm = [L.nx])
    (h : putN N gs L d x c (fun L' => k L' gs κ) = some r) : LOk P N ops o L k r := by
  unfold putN at h
  obtain ⟨ho, h⟩ := tst_e h
  obtain ⟨hN, hm, hx, h⟩ := put_e h
  obtain ⟨hh, h⟩ := putH_e h
  refine ⟨_, _, _, _, h, ⟨?_, hk, ?_, ?_, h4.symm⟩, hl hN, reOf_mem.1, hrh, ?_, Nat.le_succ _, rfl, rfl, ?_, ?_, ⟨[_], rfl⟩, ⟨[_], rfl⟩, hi.put hm ho⟩
  · rw [h1]; exact reOf_keys
  · rw [h2]; simp
  · rw [h3]; simp
  · intro y hy; simp at hy; subst hy; exact ⟨Nat.le_refl _, Nat.lt_succ_self _⟩
  · show (d, (x.res L.gn).av) :: _ = _
    rw [hx]; rfl
  · show avH L.gn ((L.nx, c) :: L.h) = _
    rw [hh, hc]; rfl
theorem lAlloc_ok {N ops} {L : SLS tb} {gs o T im} {k : SLS tb → List Nat → KL → Option ρ} {r} (hi : RI gs L.e) (hg : o.guard = none) (ho : o.op = .alloc T) (h : lAlloc cx N ops L gs o T im k = some r) : LOk P N ops o L k r := by
  unfold lAlloc at h
  obtain ⟨d, hd, h⟩ := got_e h
  obtain ⟨Z, hZ, h⟩ := got_e h
  split at h
  · obtain ⟨E, hE, h⟩ := got_e h
    obtain ⟨l, hl, h⟩ := got_e h
    exact putN_ok (rh := []) hi rfl (fun hN => (LEx.alloc hg ho (zeroS_e hZ) hd hN).wsub (chop_ok hl)) (by simp) (by simp) rfl rfl rfl rfl h
  exact putN_ok (rh := []) hi rfl (fun hN => LEx.alloc hg ho (zeroS_e hZ) hd hN) (by simp) (by simp) rfl rfl rfl rfl h
def lBox (N : Nat) (ops : Array Oper) (L : SLS tb) (gs : List Nat) (o : Oper) (y : Operand) (im : Bool) (k : SLS tb → List Nat → KL → Option ρ) : Option ρ :=
  got o.dst fun d => got (opd L [] y) fun x => tst (solidS x) (match im with
  | true => tst (hasL (fun _ => false) (cellsS x)) <| put N gs L d (.cp (cellsS x)) fun L' => k L' gs ⟨o.looksAt ops, [], [d], [], []⟩
  | false => putN N gs L d (.ptr L.nx 0) (.cells (cellsS x)) fun L' => k L' gs ⟨o.looksAt ops, [], [d], [L.nx], [L.nx]⟩)
theorem lBox_ok {N ops} {L : SLS tb} {gs o T y im} {k : SLS tb → List Nat → KL → Option ρ} {r} (hi : RI gs L.e) (hg : o.guard = none) (ho : o.op = .box T y) (h : lBox N ops L gs o y im k = some r) : LOk P N ops o L k r := by
  unfold lBox at h
  obtain ⟨d, hd, h⟩ := got_e h
  obtain ⟨x, hx, h⟩ := got_e h
  obtain ⟨hs, h⟩ := tst_e h
  obtain ⟨g1, g2⟩ := solidS_e hs
  have hy := opd_ok (Gu.nil hi.inv) hx
  split at h
  · obtain ⟨hb, h⟩ := tst_e h
    obtain ⟨hN, hm, hx2, h⟩ := put_e h
    have hb2 := hasL_bare hb
    rw [g2] at hb2
    refine ⟨_, _, _, _, h, ⟨reOf_keys, by simp [needH], by simp, by simp, rfl⟩, LEx.q hg (QEx.boxC ho hy g1 hb2) hd hN, reOf_mem.1, by simp [needH], by simp, Nat.le_refl _, rfl, rfl, ?_, rfl, ⟨[_], rfl⟩, ⟨[], rfl⟩, hi.put hm rfl⟩
    show (d, AV.cptr (avL (cellsS x))) :: _ = _
    rw [g2]; rfl
  · exact putN_ok (rh := []) hi (by show ABlk.cells _ = _; rw [g2]) (fun hN => LEx.box hg ho hy g1 hd hN) (by simp) (by simp) rfl rfl rfl rfl h

/-! stores -/
def lStore (cx : Ctx P tb) (ops : Array Oper) (L : SLS tb) (gs : List Nat) (o : Oper) (t : Nat) (y z : Operand) (k : SLS tb → List Nat → KL → Option ρ) : Option ρ := match o.dst with
  | some _ => none
  | none => got (opd L [] y) fun p => got (opd L [] z) fun x => got (tSz P t) fun n => tst (solidS x) <| tst (Nat.beq (cellsS x).length n) (match p with
    | .ptr id off => got (cellsAt L id) fun l => tst (Nat.ble (off + n) l.length) <| putH L id (.cells (l.take off ++ cellsS x ++ l.drop (off + n))) fun L' => k L' gs ⟨o.looksAt ops, [id], [], [id], []⟩
    | .epr id E i fo => got (arrAt L id E) fun l => tst (Nat.ble (fo + n) (tb.sz E)) <| Chk (0 ≤ i ∧ i < l.length) <| got ((cx.cd E).ofC (((cx.cd E).cs (ixd (cx.cd E).inh l i)).take fo ++ cellsS x ++ ((cx.cd E).cs (ixd (cx.cd E).inh l i)).drop (fo + n))) fun v =>
      Let (l.set i.toNat v) fun l' => putH L id (.arr E l') fun L' => k L' gs ⟨o.looksAt ops, [id], [], [id], []⟩
    | _ => none)
theorem Let_e {β ρ : Type} {v : β} {k : β → Option ρ} {r : ρ} (h : Let v k = some r) : k v = some r := h
theorem Chk_e {α : Type} {c : Prop} [Decidable c] {k : Option α} {r : α} (h : Chk c k = some r) : c ∧ k = some r := by
  unfold Chk at h; split at h
  · exact ⟨‹_›, h⟩
  · cases h
theorem elC_set {E : tb.Ix} : ∀ {l : List (tb.T E)} {i : Nat} {v : tb.T E}, i < l.length → (∀ x, (tb.el E x).cells.length = tb.sz E) → elC tb E (l.set i v) = (elC tb E l).take (i * tb.sz E) ++ (tb.el E v).cells ++ (elC tb E l).drop ((i + 1) * tb.sz E)
  | x :: l, 0, v, _, hc => by
    simp only [elC, List.set_cons_zero, List.map_cons, List.flatMap_cons, Nat.zero_mul, List.take_zero, List.nil_append, Nat.zero_add, Nat.one_mul]
    rw [← hc x, List.drop_left]
  | x :: l, i + 1, v, h, hc => by
    have ih := elC_set (l := l) (i := i) (v := v) (by simpa using h) hc
    have e1 : ∀ z, elC tb E (x :: z) = (tb.el E x).cells ++ elC tb E z := fun z => rfl
    have h1 : (i + 1) * tb.sz E = (tb.el E x).cells.length + i * tb.sz E := by rw [hc, Nat.add_mul]; omega
    have h2 : (i + 1 + 1) * tb.sz E = (tb.el E x).cells.length + (i + 1) * tb.sz E := by rw [hc, Nat.add_mul (i + 1)]; omega
    rw [List.set_cons_succ, e1, e1, ih, h2, h1, List.take_length_add_append, List.drop_length_add_append]
    simp [List.append_assoc]
theorem lStore_ok {N ops} {L : SLS tb} {gs o t y z} {k : SLS tb → List Nat → KL → Option ρ} {r} (hi : RI gs L.e) (hg : o.guard = none) (ho : o.op = .store t y z) (h : lStore cx ops L gs o t y z k = some r) : LOk P N ops o L k r := by
  unfold lStore at h
  split at h
  · cases h
  · rename_i hd
    obtain ⟨p, hp, h⟩ := got_e h
    obtain ⟨x, hx, h⟩ := got_e h
    obtain ⟨n, hn, h⟩ := got_e h
    obtain ⟨hs, h⟩ := tst_e h
    obtain ⟨hlen, h⟩ := tst_e h
    have hlen := Nat.eq_of_beq_eq_true hlen
    obtain ⟨g1, g2⟩ := solidS_e hs
    have hy := opd_ok (Gu.nil hi.inv) hp
    have hz := opd_ok (Gu.nil hi.inv) hx
    have hl2 : x.av.cells.length = n := by rw [← g2, avL_length, hlen]
    split at h
    · obtain ⟨l, hl, h⟩ := got_e h
      obtain ⟨hf, h⟩ := tst_e h
      obtain ⟨hh, h⟩ := putH_e h
      have hl := cellsAt_e hl
      have key := LEx.store (l := avL l) (ops := ops) (N := N) hg ho hd hn hy hz g1 hl2 (by rw [avL_length]; exact Nat.le_of_ble_eq_true hf)
      refine ⟨_, _, _, _, h, ⟨reOf_keys, by simp, by simp, by simp, rfl⟩, key, reOf_mem.1, ?_, by simp, Nat.le_refl _, rfl, rfl, rfl, ?_, ⟨[], rfl⟩, ⟨[_], rfl⟩, hi⟩
      · intro q hq; simp at hq; subst hq; exact hl
      · show avH L.gn _ = _
        rw [hh]
        show (_, ABlk.cells (avL (l.take _ ++ cellsS x ++ l.drop _))) :: _ = _
        rw [avL_append, avL_append, avL_take, avL_drop, g2]; rfl
    · rename_i id E i fo _ _ _ _
      obtain ⟨l, hl, h⟩ := got_e h
      obtain ⟨hf, h⟩ := tst_e h
      have hf := Nat.le_of_ble_eq_true hf
      obtain ⟨hc, h⟩ := Chk_e h
      obtain ⟨v, hv, h⟩ := got_e h
      obtain ⟨hh, h⟩ := putH_e (Let_e h)
      have hl := arrAt_e hl
      have hlt : i.toNat < l.length := by omega
      have hm := Nat.mul_le_mul_right (tb.sz E) (show i.toNat + 1 ≤ l.length from hlt)
      rw [Nat.add_mul, Nat.one_mul] at hm
      have key := LEx.store (l := elC tb E l) (ops := ops) (N := N) hg ho hd hn hy hz g1 hl2 (by rw [elC_length cx]; omega)
      have hsub := ((cx.ok E).ofC _ _ hv).1
      rw [avL_append, avL_append, avL_take, avL_drop, g2, ← elC_at cx hc] at hsub
      have key := key.wsub (Z' := elC tb E (l.set i.toNat v)) (by
        rw [elC_set hlt (cx.ok E).len]
        have e1 : (elC tb E l).take (i.toNat * tb.sz E + fo) = (elC tb E l).take (i.toNat * tb.sz E) ++ (((elC tb E l).drop (i.toNat * tb.sz E)).take (tb.sz E)).take fo := by
          rw [List.take_take, Nat.min_eq_left (by omega), List.take_add]
        have e2 : (elC tb E l).drop (i.toNat * tb.sz E + fo + n) = (((elC tb E l).drop (i.toNat * tb.sz E)).take (tb.sz E)).drop (fo + n) ++ (elC tb E l).drop ((i.toNat + 1) * tb.sz E) := by
          rw [List.drop_take, List.drop_drop, Nat.add_mul, Nat.one_mul]
          have := List.take_append_drop (tb.sz E - (fo + n)) ((elC tb E l).drop (i.toNat * tb.sz E + (fo + n)))
          rw [List.drop_drop] at this
          rw [show i.toNat * tb.sz E + tb.sz E = i.toNat * tb.sz E + (fo + n) + (tb.sz E - (fo + n)) by omega, this, Nat.add_assoc]
        rw [e1, e2]
        have := ((SubL.refl ((elC tb E l).take (i.toNat * tb.sz E))).append hsub).append (SubL.refl ((elC tb E l).drop ((i.toNat + 1) * tb.sz E)))
        simpa only [List.append_assoc] using this)
      refine ⟨_, _, _, _, h, ⟨reOf_keys, by simp, by simp, by simp, rfl⟩, key, reOf_mem.1, ?_, by simp, Nat.le_refl _, rfl, rfl, rfl, ?_, ⟨[], rfl⟩, ⟨[_], rfl⟩, hi⟩
      · intro q hq; simp at hq; subst hq; exact hl
      · show avH L.gn _ = _
        rw [hh]; rfl
    · cases h
end
end Go.Rx
end

section
/-
  Slices made and appended to, calls whose results are new slices, run on symbolic states. No conditions.
-/
set_option linter.all false
namespace Go.Rx
open Go.RowKit
variable [GlC]

section
variable {P : Program} {tb : Tb} {ρ : Type} {cx : Ctx P tb}

/-- The elements' type of slices of type t: its index, its size in bytes. -/
theorem elC_replicate {E : tb.Ix} {Z : List AV} {z : tb.T E} (h : SubL Z (tb.el E z).cells) : ∀ n, SubL (List.replicate n Z).flatten (elC tb E (List.replicate n z))
  | 0 => by simpa [elC] using SubL.refl []
  | n + 1 => by
    have := h.append (elC_replicate h n)
    simpa [elC, List.replicate_succ] using this
def lMake (cx : Ctx P tb) (N : Nat) (ops : Array Oper) (L : SLS tb) (gs : List Nat) (o : Oper) (t : Nat) (x y : Operand) (k : SLS tb → List Nat → KL → Option ρ) : Option ρ :=
  got o.dst fun d => got (elemOf P tb t) fun p => got (zeroS P p.2.1) fun Z => got ((cx.cd p.1).ofC Z) fun z => got (opd L [] x) fun a => got (opd L [] y) fun b => got (asI a) fun n => got (asI b) fun c =>
  Chk (0 ≤ n.2 ∧ n.2 ≤ c.2 ∧ (p.2.2 : Int) * c.2 ≤ 281474976710656 ∧ c.2 ≤ 9223372036854775807) <| Let (List.replicate n.2.toNat z) fun l => putN N gs L d (.rw L.nx p.1) (.arr p.1 l) fun L' => k L' gs ⟨o.looksAt ops, [], [d], [L.nx], [L.nx]⟩
theorem lMake_ok {N ops} {L : SLS tb} {gs o t x y} {k : SLS tb → List Nat → KL → Option ρ} {r} (hi : RI gs L.e) (hg : o.guard = none) (ho : o.op = .makeSlice t x y) (h : lMake cx N ops L gs o t x y k = some r) : LOk P N ops o L k r := by
  unfold lMake at h
  obtain ⟨d, hd, h⟩ := got_e h
  obtain ⟨p, hp, h⟩ := got_e h
  obtain ⟨Z, hZ, h⟩ := got_e h
  obtain ⟨z, hz, h⟩ := got_e h
  obtain ⟨a, ha, h⟩ := got_e h
  obtain ⟨b, hb, h⟩ := got_e h
  obtain ⟨n, hn, h⟩ := got_e h
  obtain ⟨c, hc, h⟩ := got_e h
  obtain ⟨⟨h1, h2, h3, h4⟩, h⟩ := Chk_e h
  have hx := opd_ok (Gu.nil hi.inv) ha
  have hy := opd_ok (Gu.nil hi.inv) hb
  rw [asI_e hn] at hx
  rw [asI_e hc] at hy
  exact putN_ok (rh := []) hi rfl (fun hN => (LEx.makeRow hg hd hN ho (elemOf_e hp) (zeroS_e hZ) hx hy h1 h2 h3 h4).wsub (elC_replicate ((cx.ok p.1).ofC _ _ hz).1 _)) (by simp) (by simp) rfl rfl rfl rfl (Let_e h)

/-- A slice made of what is no plain data. -/
def lBuildO (N : Nat) (ops : Array Oper) (L : SLS tb) (gs : List Nat) (o : Oper) (t n : Nat) (ps : Array (Nat × Operand)) (k : SLS tb → List Nat → KL → Option ρ) : Option ρ :=
  got o.dst fun d => got (elemT P t 1) fun _ => got tb.byte fun b => tst (Nat.beq (tb.sz b.1) 1) <| got (fillS L [] (fun i => some (i * 1, 1)) ps.toList (List.replicate (n * 1) .undef)) fun Z =>
  tst (Nat.beq Z.length (n * 1)) <| tst (Nat.blt 0 n) <| tst (Nat.ble (n * 1) (2 ^ 24)) <| putN N gs L d (.rw L.nx b.1) (.cells Z) fun L' => k L' gs ⟨o.looksAt ops, [], [d], [L.nx], [L.nx]⟩
theorem avL_rep : ∀ n : Nat, avL (List.replicate n (SV.undef : SV tb)) = List.replicate n AV.undef
  | 0 => rfl
  | n + 1 => by rw [List.replicate_succ, List.replicate_succ]; simp only [avL, avL_rep n]; rfl
theorem lBuildO_ok {N ops} {L : SLS tb} {gs o t n ps} {k : SLS tb → List Nat → KL → Option ρ} {r} (hi : RI gs L.e) (hg : o.guard = none) (ho : o.op = .buildSlice t n ps) (h : lBuildO (P := P) N ops L gs o t n ps k = some r) : LOk P N ops o L k r := by
  unfold lBuildO at h
  obtain ⟨d, hd, h⟩ := got_e h
  obtain ⟨p, hp, h⟩ := got_e h
  obtain ⟨b, hb, h⟩ := got_e h
  obtain ⟨h1, h⟩ := tst_e h
  obtain ⟨Z, hZ, h⟩ := got_e h
  obtain ⟨h2, h⟩ := tst_e h
  obtain ⟨h3, h⟩ := tst_e h
  obtain ⟨h4, h⟩ := tst_e h
  have hf := fillS_ok (Gu.nil hi.inv) hZ
  rw [avL_rep] at hf
  refine putN_ok (rh := []) hi rfl (fun hN => ?_) (by simp) (by simp) rfl rfl rfl rfl h
  have := LEx.buildOwn (ops := ops) (N := N) (nm := L.nx) hg hd hN ho (elemT_e hp) hf (by rw [avL_length]; exact Nat.eq_of_beq_eq_true h2) (Nat.le_of_ble_eq_true h3) (Nat.le_of_ble_eq_true h4)
  have e : (SV.rw L.nx b.1 : SV tb).av = .rw L.nx 1 := by show AV.rw _ _ = _; rw [Nat.eq_of_beq_eq_true h1]
  rw [e]; exact this

/-! appends -/
def byteIx (tb : Tb) (E : tb.Ix) (s : List UInt8) : Option (List (tb.T E)) := match tb.byte with
  | some b => (match tb.dec E b.1 with | isTrue he => some (cast (congrArg List ((congrArg tb.T he).trans (Classical.choose b.2))).symm s) | isFalse _ => none)
  | none => none
theorem byteIx_e {E s l} (h : byteIx tb E s = some l) : tb.sz E = 1 ∧ l.map (tb.el E) = s.map byteAV := by
  unfold byteIx at h
  split at h
  · rename_i b _
    split at h
    · rename_i he _
      cases h
      subst he
      obtain ⟨h1, h2⟩ := Classical.choose_spec b.2
      exact ⟨h1, bytes_map2 (Classical.choose b.2) h2 s⟩
    · cases h
  · cases h
/-- What is appended. -/
def srcK (P : Program) (L : SLS tb) (E : tb.Ix) (tz : Nat) (z : Operand) (k : List (tb.T E) → List Nat → Option ρ) : Option ρ :=
  got (opd L [] z) fun x => got (P.underlying tz) fun D => match isStrD D with
  | true => got (asS x) fun s => got (byteIx tb E s) fun l => k l []
  | false => got (isSlD D) fun _ => match isNil x with
    | true => k [] []
    | false => match x with
      | .sl _ E' l => (match tb.dec E' E with | isTrue h => k (h ▸ l) [] | isFalse _ => none)
      | .em _ => k [] []
      | .rw id E' => (match tb.dec E' E with | isTrue _ => got (arrAt L id E) fun l => k l [id] | isFalse _ => none)
      | .row id E' off len _ => (match tb.dec E' E with | isTrue _ => got (arrAt L id E) fun l => Chk (off + len ≤ l.length) (Let ((l.drop off).take len) fun l' => k l' [id]) | isFalse _ => none)
      | _ => none
theorem srcK_ok (cx : Ctx P tb) {L : SLS tb} {o E tz z} {k : List (tb.T E) → List Nat → Option ρ} {r} (hi : GInv L.e) (hm : z ∈ o.op.operands) (h : srcK P L E tz z k = some r) :
    ∃ l need, k l need = some r ∧ SrcOk P o L.E (needAV L need) (tb.sz E) tz z (l.map (tb.el E)) ∧ ∀ q ∈ needAV L need, find q.1 L.av.h = some (.cells q.2) := by
  unfold srcK at h
  obtain ⟨x, hx, h⟩ := got_e h
  obtain ⟨D, hD, h⟩ := got_e h
  have hz := opd_ok (Gu.nil hi) hx
  have aux : ∀ l need, k l need = some r → SrcOk P o L.E (needAV L need) (tb.sz E) tz z (l.map (tb.el E)) → ∃ l need, k l need = some r ∧ SrcOk P o L.E (needAV L need) (tb.sz E) tz z (l.map (tb.el E)) ∧ ∀ q ∈ needAV L need, find q.1 L.av.h = some (.cells q.2) :=
    fun l need h1 h2 => ⟨l, need, h1, h2, needAV_mem⟩
  split at h
  · rename_i hs
    rw [isStrD_e hs] at hD
    obtain ⟨s, hs2, h⟩ := got_e h
    obtain ⟨l, hl, h⟩ := got_e h
    obtain ⟨g1, g2⟩ := byteIx_e hl
    refine aux _ _ h ?_
    rw [g1, g2]
    rw [asS_e hs2] at hz
    exact SrcOk.str hm hD hz
  · obtain ⟨ET, hET, h⟩ := got_e h
    rw [isSlD_e hET] at hD
    split at h
    · rename_i hn
      exact aux _ _ h (SrcOk.sl (c := true) hm hD (hz.sub (by rw [isNil_e hn]; exact .nil)))
    · cases x with
      | sl c E' l =>
        simp only at h
        split at h
        · rename_i hE _
          subst hE
          exact aux _ _ h (SrcOk.sl hm hD hz)
        · cases h
      | em E' =>
        refine aux _ _ h (SrcOk.sl (c := false) hm hD (hz.sub ?_))
        intro m bl v rp
        cases rp with
        | slnil => exact .slnil
        | sl g1 g2 g3 g4 g5 g6 g7 =>
          simp only [List.flatMap_nil] at g2
          cases g2
          exact .sl (cs := []) (l := []) (by simp) (by simpa using Reps.nil) (by simp) (by simp) (by simp) (by simp) (by simp)
      | rw id E' =>
        simp only at h
        split at h
        · rename_i hE _
          subst hE
          obtain ⟨l, hl, h⟩ := got_e h
          have hl := arrAt_e hl
          refine aux _ _ h ?_
          rw [needAV_one hl]
          exact SrcOk.rw hm hD hz mem1 (cx.ok E').pos (elC_len cx.ok) (el_bare cx l)
        · cases h
      | row id E' off len mc =>
        simp only at h
        split at h
        · rename_i hE _
          subst hE
          obtain ⟨l, hl, h⟩ := got_e h
          have hl := arrAt_e hl
          obtain ⟨hc, h⟩ := Chk_e h
          have h := Let_e h
          refine aux _ _ h ?_
          rw [needAV_one hl]
          refine SrcOk.row (l := elC tb E' l) hm hD hz mem1 (by rw [List.length_map, List.length_take, List.length_drop]; omega) (elC_len cx.ok) ?_ (el_bare cx _) ?_
          · have h5 := flat_drop (l := l.map (tb.el E')) off (elC_len cx.ok)
            have h6 := flat_take (l := (l.drop off).map (tb.el E')) len (elC_len cx.ok)
            unfold elC
            rw [h5, ← List.map_drop, h6, ← List.map_take]
          · rw [elC_length cx, ← Nat.add_mul]; exact Nat.mul_le_mul_right _ hc
        · cases h
      | _ => cases h
def ifE (a b : tb.Ix) (k : a = b → Option ρ) : Option ρ := match tb.dec a b with | isTrue h => k h | isFalse _ => none
theorem ifE_e {a b : tb.Ix} {k : a = b → Option ρ} {r} (h : ifE a b k = some r) : ∃ e, k e = some r := by
  unfold ifE at h; split at h
  · exact ⟨_, h⟩
  · cases h
def isEm : SV tb → Bool
  | .em _ => true
  | .con (.slice none 0 0) => true
  | _ => false
theorem isEm_e {x : SV tb} {sz : Nat} (h : isEm x = true) (hs : ∀ E, x = .em E → tb.sz E = sz) : Sub x.av (.sl true sz []) := by
  unfold isEm at h
  split at h
  · rename_i E
    rw [← hs E rfl]; exact .refl _
  · exact .nil
  · cases h
def emOk (E : tb.Ix) : SV tb → Bool
  | .em E' => (match tb.dec E' E with | isTrue _ => true | isFalse _ => false)
  | _ => true
theorem emOk_e {E : tb.Ix} {x : SV tb} (h : emOk E x = true) : ∀ E', x = .em E' → tb.sz E' = tb.sz E := by
  rintro E' rfl
  unfold emOk at h
  simp only at h
  split at h
  · rename_i hE _; rw [hE]
  · cases h
def lApp (cx : Ctx P tb) (N : Nat) (ops : Array Oper) (L : SLS tb) (gs : List Nat) (o : Oper) (c : Call) (k : SLS tb → List Nat → KL → Option ρ) : Option ρ :=
  got o.dst fun d => got (args2 c) fun a => got (types2 c) fun t => got (elemOf P tb t.1) fun p => got (opd L [] a.1) fun x => tst (Nat.ble 1 p.2.2) <| srcK P L p.1 t.2 a.2 fun l2 need => match isEm x with
  | true => tst (emOk p.1 x) <| Chk (l2.length * p.2.2 ≤ 140737488355328) <| putN N gs L d (.rw L.nx p.1) (.arr p.1 l2) fun L' => k L' gs ⟨o.looksAt ops, need, [d], [L.nx], [L.nx]⟩
  | false => match x with
    | .sl true E' l => ifE E' p.1 fun h => Chk ((l.length + l2.length) * p.2.2 ≤ 140737488355328) <| Let ((h ▸ l) ++ l2) fun l' => put N gs L d (.sl false p.1 l') fun L' => k L' gs ⟨o.looksAt ops, need, [d], [], []⟩
    | .row id E' off len mc => ifE E' p.1 fun _ => got (arrAt L id p.1) fun l => Chk (off + (len + l2.length) ≤ l.length ∧ len + l2.length ≤ mc ∧ 0 < mc) <| Let (l.take (off + len) ++ l2 ++ l.drop (off + len + l2.length)) fun l' =>
        put N gs L d (.row id p.1 off (len + l2.length) mc) fun L' => putH L' id (.arr p.1 l') fun L' => k L' gs ⟨o.looksAt ops, id :: need, [d], [id], []⟩
    | _ => none
theorem len63 {n b : Nat} (h1 : 1 ≤ b) (h : n * b ≤ 140737488355328) : n ≤ 9223372036854775807 := by
  have : n * 1 ≤ n * b := Nat.mul_le_mul_left _ h1
  omega
theorem needAV_cons {L : SLS tb} {id need l} (h : find id (avH L.gn L.h) = some (.cells l)) : needAV L (id :: need) = (id, l) :: needAV L need := by
  simp [needAV, h]
theorem SrcOk.mono {o : Oper} {e need need' sz tz z l2} (h : SrcOk P o e need sz tz z l2) (hs : ∀ p ∈ need, p ∈ need') : SrcOk P o e need' sz tz z l2 :=
  fun B m0 hh m bl a w hws hn hr => h B m0 hh m bl a w hws (fun p hp => hn p (hs p hp)) hr
theorem lApp_ok {N ops} {L : SLS tb} {gs o c} {k : SLS tb → List Nat → KL → Option ρ} {r} (hi : RI gs L.e) (hg : o.guard = none) (ho : o.op = .call c) (hb : c.callee = .builtin .append) (h : lApp cx N ops L gs o c k = some r) : LOk P N ops o L k r := by
  unfold lApp at h
  obtain ⟨d, hd, h⟩ := got_e h
  obtain ⟨⟨y, z⟩, ha, h⟩ := got_e h
  obtain ⟨⟨t, tz⟩, ht, h⟩ := got_e h
  obtain ⟨⟨E, E0, by_⟩, hp, h⟩ := got_e h
  obtain ⟨x, hx, h⟩ := got_e h
  obtain ⟨hby, h⟩ := tst_e h
  have ho : o.op = .call { callee := .builtin .append, args := #[y, z], argTypes := #[t, tz] } := by
    rw [ho]
    obtain ⟨c1, c2, c3⟩ := c
    have h1 := args2_e ha
    have h2 := types2_e ht
    simp only at h1 h2 hb
    rw [h1, h2, hb]
  have hET := elemOf_e hp
  have hby2 : 1 ≤ by_ := Nat.le_of_ble_eq_true hby
  have hy := opd_ok (Gu.nil hi.inv) hx
  obtain ⟨l2, need, h, hsrc, hnd⟩ := srcK_ok (o := o) cx hi.inv (by rw [ho]; simp [Op.operands, Call.operands]) h
  simp only at h hET hsrc
  split at h
  · rename_i hem
    obtain ⟨he, h⟩ := tst_e h
    obtain ⟨hc, h⟩ := Chk_e h
    refine putN_ok (rh := needH (needAV L need)) hi rfl (fun hN => ?_) (needH_mem.2 needAV_mem) needH_keys rfl rfl rfl rfl h
    exact LEx.appN hg hd hN ho hET (hy.sub (isEm_e hem (emOk_e he))) hsrc (by rw [List.length_map]; exact hc) (by rw [List.length_map]; exact len63 hby2 hc)
  · split at h
    · rename_i E' l _ _ _
      · obtain ⟨hE, h⟩ := ifE_e h
        subst hE
        obtain ⟨hc, h⟩ := Chk_e h
        obtain ⟨hN, hm, hx2, h⟩ := put_e (Let_e h)
        have q := QEx.appI ho hET hy hsrc (by rw [List.length_map, List.length_map]; exact hc) (by rw [List.length_map, List.length_map]; exact len63 hby2 hc)
        refine ⟨_, _, _, _, h, ⟨reOf_keys, needH_keys, by simp, by simp, rfl⟩, LEx.q hg q hd hN, reOf_mem.1, needH_mem.2 needAV_mem, by simp, Nat.le_refl _, rfl, rfl, ?_, rfl, ⟨[_], rfl⟩, ⟨[], rfl⟩, hi.put hm rfl⟩
        show (d, AV.sl false (tb.sz E') ((l ++ l2).map (tb.el E'))) :: _ = _
        rw [List.map_append]; rfl
    · rename_i id E' off len mc _ _ _
      · obtain ⟨hE, h⟩ := ifE_e h
        subst hE
        obtain ⟨l, hl, h⟩ := got_e h
        obtain ⟨⟨h1, h2, h3⟩, h⟩ := Chk_e h
        obtain ⟨hN, hm, hx2, h⟩ := put_e (Let_e h)
        obtain ⟨hh, h⟩ := putH_e h
        have hl := arrAt_e hl
        have hsz : ((l2.map (tb.el E')).flatMap AV.cells).length = l2.length * tb.sz E' := by rw [flat_len (elC_len cx.ok), List.length_map]
        have key := LEx.appIn (ops := ops) (N := N) (l := elC tb E' l) (need := (id, elC tb E' l) :: needAV L need) (l2 := l2.map (tb.el E')) hg hd hN ho hET hy List.mem_cons_self
          (by rw [List.length_map, elC_length cx, ← Nat.add_mul]; exact Nat.mul_le_mul_right _ h1) (by rw [List.length_map]; exact h2) h3 (hsrc.mono fun p hp => List.mem_cons_of_mem _ hp)
        refine ⟨_, _, _, _, h, ⟨reOf_keys, ?_, by simp, by simp, rfl⟩, key, reOf_mem.1, ?_, by simp, Nat.le_refl _, rfl, rfl, ?_, ?_, ⟨[_], rfl⟩, ⟨[_], rfl⟩, hi.put hm rfl⟩
        · rw [← needAV_cons hl]; exact needH_keys
        · rw [← needAV_cons hl]; exact needH_mem.2 needAV_mem
        · show (d, ((SV.row id E' off (len + l2.length) mc).res L.gn).av) :: _ = _
          rw [hx2, List.length_map]; rfl
        · show avH L.gn _ = _
          rw [hh]
          show (id, ABlk.cells (elC tb E' (l.take (off + len) ++ l2 ++ l.drop (off + len + l2.length)))) :: _ = _
          have e1 : ∀ a b : List (tb.T E'), elC tb E' (a ++ b) = elC tb E' a ++ elC tb E' b := fun a b => by simp [elC]
          have e2 : ∀ n, elC tb E' (l.take n) = (elC tb E' l).take (n * tb.sz E') := fun n => by unfold elC; rw [flat_take n (elC_len cx.ok), List.map_take]
          have e3 : ∀ n, elC tb E' (l.drop n) = (elC tb E' l).drop (n * tb.sz E') := fun n => by unfold elC; rw [flat_drop n (elC_len cx.ok), List.map_drop]
          rw [e1, e1, e2, e3, hsz, Nat.add_mul, Nat.add_mul, Nat.add_mul]; rfl
    · cases h

/-! calls whose results own new blocks -/
theorem ownS_cons {own : List Nat} {j k : Nat} {x : SV tb} {l : List (SV tb)} : ownS own j k (x :: l) = match own.contains j, x with
    | true, .sl _ E xs => (.rw k E :: (ownS own (j + 1) (k + 1) l).1, (k, .arr E xs) :: (ownS own (j + 1) (k + 1) l).2)
    | _, x => (x :: (ownS own (j + 1) k l).1, (ownS own (j + 1) k l).2) := rfl
theorem ownS_av {own : List Nat} (b : Nat) : ∀ {l : List (SV tb)} {j k}, allBare (avL l) = true → avL (ownS own j (k + b) l).1 = reL (fun i => some (i + b)) (avL (ownS own j k l).1) ∧
    (ownS own j (k + b) l).2.map (fun p => (p.1, p.2.av)) = shH b ((ownS own j k l).2.map fun p => (p.1, p.2.av))
  | [], _, _, _ => ⟨rfl, rfl⟩
  | x :: l, j, k, h => by
    have hx : x.av.isBare = true ∧ allBare (avL l) = true := by
      have : (AV.clean _ x.av && cleanL _ (avL l)) = true := h
      simpa using this
    have gen : ∀ (c : Bool), (∀ c' E xs, c = true → x = .sl c' E xs → False) → ownS own j (k + b) (x :: l) = (x :: (ownS own (j + 1) (k + b) l).1, (ownS own (j + 1) (k + b) l).2) ∧ ownS own j k (x :: l) = (x :: (ownS own (j + 1) k l).1, (ownS own (j + 1) k l).2) → 
        avL (ownS own j (k + b) (x :: l)).1 = reL (fun i => some (i + b)) (avL (ownS own j k (x :: l)).1) ∧ (ownS own j (k + b) (x :: l)).2.map (fun p => (p.1, p.2.av)) = shH b ((ownS own j k (x :: l)).2.map fun p => (p.1, p.2.av)) := by
      intro c _ ⟨e1, e2⟩
      obtain ⟨i1, i2⟩ := ownS_av b (l := l) (j := j + 1) (k := k) hx.2
      rw [e1, e2]
      exact ⟨by simp only [avL, reL]; rw [bare_of hx.1, i1], i2⟩
    cases hc : own.contains j with
    | false =>
      refine gen false (by simp) ⟨?_, ?_⟩ <;> (rw [ownS_cons, hc])
    | true =>
      cases x with
      | sl c' E xs =>
        have e1 : ∀ k, ownS own j k (SV.sl c' E xs :: l) = (.rw k E :: (ownS own (j + 1) (k + 1) l).1, (k, .arr E xs) :: (ownS own (j + 1) (k + 1) l).2) := by
          intro k; rw [ownS]; rw [hc]
        obtain ⟨i1, i2⟩ := ownS_av b (l := l) (j := j + 1) (k := k + 1) hx.2
        rw [e1, e1]
        rw [show k + b + 1 = k + 1 + b by omega]
        exact ⟨by simp only [avL, reL]; rw [i1]; rfl, by simp only [List.map_cons]; rw [i2]; rfl⟩
      | _ => refine gen true (by rintro _ _ _ _ h; cases h) ⟨?_, ?_⟩ <;> (rw [ownS]; rw [hc]; intros; contradiction)
end
end Go.Rx
end

section
/-
  Zeros appended to nothing; a slice cleared. No conditions.
-/
set_option linter.all false
namespace Go.Rx
open Go.RowKit
variable [GlC]
section
variable {P : Program}
theorem run_append_zeros (w : World) (t tx ty e : TypeId) (i : TypeInfo) (z : Value) (k : IntKind) (ht : P.underlying t = some (.slice e)) (hx : P.underlying tx = some (.int k)) (hi : P.info? e = some i) (hz : i.zero = some z) (hp : 0 < i.size) (base : Option Addr)
    (hold : (Builtin.firstCells i.size 0 (.slice base 0 0)).run P w.drew = .ok #[] w.drew) (n : Int) (hn : 0 < n) (h63 : n ≤ 9223372036854775807) (hb : n.toNat * i.bytes ≤ 140737488355328) :
    (Builtin.append_ #[t, tx] ty #[.slice base 0 0, .int k n]).run P w =
      .ok (.slice (some ⟨w.heap.size, 0, none⟩) n.toNat (grownCap w n.toNat 0 e))
        (w.drew.alloc (.cells (Builtin.zeroCells z.cells n.toNat ++ Builtin.zeroCells z.cells (grownCap w n.toNat 0 e - n.toNat)) e)) := by
  have hw : IntKind.i64.wrap n = n := by simp [IntKind.wrap, IntKind.bits, IntKind.signed]; omega
  have h1 : ¬ n < 0 := by omega
  have hcast : (n.toNat : Int) = n := by omega
  have h2 : ¬ (281474976710656 : Int) < n * i.bytes := by
    have : ((n.toNat * i.bytes : Nat) : Int) = n * i.bytes := by rw [Int.natCast_mul, hcast]
    omega
  have h3 : ¬ n.toNat ≤ 0 := by omega
  have h4 : ¬ (9223372036854775807 : Int) < n.toNat := by omega
  have hfit := growslice_fits (need := n.toNat) (bytes := i.bytes) (old := 0) (by omega) hb
  have h5 : ¬ 281474976710656 < Builtin.nextslicecap n.toNat 0 * i.bytes := by omega
  have h6 : ¬ (n.toNat = 0 ∨ i.size = 0) := by omega
  have h7 : ¬ n ≤ 0 := by omega
  have h8 : max n 0 = n := by omega
  have h9 : ¬ (9223372036854775807 : Int) < n := by omega
  have h10 : ¬ n.toNat * i.size = 0 := by rw [Nat.mul_eq_zero]; exact h6
  simp [Builtin.append_, run_underlying ht, run_underlying hx, sizeOf, typeInfo, zeroValue, hi, hz, asInt, asIntOf, hw, h1, h2, h3, h4, h5, h7, h8, h9, h10, Question.forced, hold, newRow, grownCap]

/-- Zeros appended to nothing. -/
theorem LEx.appZ {ops : Array Oper} {N : Nat} {o : Oper} {e : Env} {t tz y z E sz by_ d nm k n Z} (hg : o.guard = none) (hd : o.dst = some d) (hN : d < N) (ho : o.op = .call { callee := .builtin .append, args := #[y, z], argTypes := #[t, tz] }) (ht : ElemT P t E sz by_) (hZ : ZeroT P E Z) (hp : 0 < sz)
    (htz : P.underlying tz = some (.int k)) (hy : OpdOk e y (.sl true sz [])) (hz : OpdOk e z (.v (.int k n))) (h0 : 0 < n) (hlen : n.toNat * by_ ≤ 140737488355328) (h63 : n ≤ 9223372036854775807) :
    LEx P ops N o ⟨reOf e (o.looksAt ops), [], [(d, .rw nm sz)], [(nm, .cells (List.replicate n.toNat Z).flatten)], [nm]⟩ := by
  refine .ofA hg (fun d' h' => by rw [hd] at h'; cases h'; exact hN) ?_
  intro e2 s h f f' hre hrh hnm hf' N W0 m0 sa m bl a w S hdN next Q kk
  have hR : Reads o e m bl a := fun t ht y hy => S.env t y (agree_looks hre t (operand_looks ht) y hy)
  obtain ⟨ad, n0, cap, cs, hv, hn1, hc, el, reps, one, emp, hcap, at_⟩ := sl_cells (hy.rep hR (by simp [ho, Op.operands, Call.operands]))
  obtain rfl := hcap rfl
  simp only [List.length_nil] at hn1
  subst hn1
  have hzv := (hz.rep hR (by simp [ho, Op.operands, Call.operands])).eq_v
  obtain ⟨i, zv, hi1, hi2, hi3, hi4, hi5, hi6⟩ := ht.info
  obtain ⟨zs, hz0, hzs, hz1⟩ := hZ
  have hzz : zv.cells.toList = zs := by unfold tZero at hz0; rw [hi1] at hz0; simp [hi2] at hz0; exact hz0
  have hzl : zs.length = sz := by rw [← hzz, ← hi5]; simp
  have hfl : ∀ n : Nat, (List.replicate n zs).flatten.length = n * sz := by intro n; simp [List.length_flatten, hzl]
  have hfree : bl nm = none := S.free nm (hnm nm (by simp))
  unfold Oper.wp
  have hold : (Builtin.firstCells i.size 0 (.slice ad 0 0)).run P w.drew = .ok (#[] : Array Value) w.drew := by
    cases ad with
    | none => exact run_firstCells_none (P := P) w.drew _ _ _ _
    | some a1 => exact run_firstCells_some (P := P) w.drew i.size 0 a1 _ _ [] (by simp) (by simp)
  have hrun := run_append_zeros (P := P) w t tz o.type E i zv k ht.under htz hi1 hi2 (by rw [hi3]; exact hp) ad hold n h0 h63 (by rw [hi4]; exact hlen)
  rw [run_append2 ho (v := _) (w' := _) (by rw [hv, hzv]; exact hrun), Oper.upon_value]
  generalize hcap2 : grownCap w n.toNat 0 E = cap'
  have hge : n.toNat ≤ cap' := by rw [← hcap2]; exact grownCap_ge w _ _ E
  have hzf : ∀ n, (Builtin.zeroCells zv.cells n).toList = (List.replicate n zs).flatten := fun n => by rw [zeroCells_flat, hzz]
  have hone : ∀ n, ∀ c ∈ (List.replicate n zs).flatten, oneCell c = true := by
    intro n c hc
    obtain ⟨l', hl', hc'⟩ := List.mem_flatten.1 hc
    obtain ⟨-, rfl⟩ := List.mem_replicate.1 hl'
    exact List.all_eq_true.1 hz1 c hc'
  have hsz : (Builtin.zeroCells zv.cells n.toNat ++ Builtin.zeroCells zv.cells (cap' - n.toNat)).size = cap' * sz := by
    rw [Array.size_append, size_zeroCells, size_zeroCells, hi5, ← Nat.add_mul]; congr 1; omega
  obtain ⟨q1, q2⟩ := S.ws.newOwn (w' := w.drew.alloc (.cells (Builtin.zeroCells zv.cells n.toNat ++ Builtin.zeroCells zv.cells (cap' - n.toNat)) E)) (d := nm) (arr := Builtin.zeroCells zv.cells n.toNat ++ Builtin.zeroCells zv.cells (cap' - n.toNat)) (T := E)
    (Z := (List.replicate n.toNat Z).flatten) (pre := (List.replicate n.toNat zs).flatten) (rest := (List.replicate (cap' - n.toNat) zs).flatten) S.below.size hfree rfl (by rw [Array.toList_append, hzf, hzf]) ((hzs.reps).zeros _) (hone _)
  rw [hsz] at q1 q2
  refine kk _ _ _ m _ rfl ⟨?_, ?_, ((S.below.drew).alloc S.below.size _), q1, ?_, S.stk.widen q2, ?_⟩
  · simp [Act.put, hd, S.defers]
  · simp [Act.put, hd, S.size]
  · rw [hd]
    exact EnvRep.put (S.env.widen q2) (.rw (b := w.heap.size) (n := (cap' * sz, (List.replicate n.toNat zs).flatten.length)) (by simp [updN]) (hfl _).symm hge (Nat.le_refl _)) (by rw [S.size]; exact hdN d hd)
  · intro d' hd'
    obtain ⟨g1, g2⟩ := hf' d' hd'
    unfold updN; rw [if_neg (by simpa using g2)]; exact S.free d' g1
end
end Go.Rx
end

section
/-
  Something appended to a slice without spare capacity: a block of the call's own. Conditions: those named in each rule.
-/
set_option linter.all false
namespace Go.Rx
open Go.RowKit
variable [GlC]
section
variable {P : Program} {o : Oper} {e : Env}
theorem LEx.appC {ops : Array Oper} {N : Nat} {t tz y z E sz by_ l l2 d nm need} (hg : o.guard = none) (hd : o.dst = some d) (hN : d < N) (ho : o.op = .call { callee := .builtin .append, args := #[y, z], argTypes := #[t, tz] }) (ht : ElemT P t E sz by_)
    (hy : OpdOk e y (.sl true sz l)) (hz : SrcOk P o e need sz tz z l2) (hpos : 0 < l2.length) (hlen : (l.length + l2.length) * by_ ≤ 140737488355328) (h63 : l.length + l2.length ≤ 9223372036854775807) :
    LEx P ops N o ⟨reOf e (o.looksAt ops), needH need, [(d, .rw nm sz)], [(nm, .cells ((l ++ l2).flatMap AV.cells))], [nm]⟩ := by
  refine .ofA hg (fun d' h' => by rw [hd] at h'; cases h'; exact hN) ?_
  intro e2 s h f f' hre hrh hnm hf' N W0 m0 sa m bl a w S hdN next Q k
  have hR : Reads o e m bl a := fun t ht y hy => S.env t y (agree_looks hre t (operand_looks ht) y hy)
  obtain ⟨ad, n, cap, cs, hv, hn1, hc, el, reps, one, emp, hcap, at_⟩ := sl_cells (hy.rep hR (by simp [ho, Op.operands, Call.operands]))
  obtain rfl := hcap rfl
  subst hn1
  obtain ⟨cs2, src, reps2, el2⟩ := hz _ _ _ m bl a w S.ws (needH_mem.1 hrh) hR
  obtain ⟨i, zv, hi1, hi2, hi3, hi4, hi5, hi6⟩ := ht.info
  have hfree : bl nm = none := S.free nm (hnm nm (by simp))
  have hlen1 : cs.length = l.length * sz := by rw [← reps.length, flat_len el]
  have oneA : ∀ c ∈ cs ++ cs2, oneCell c = true := by intro x hx; rcases List.mem_append.1 hx with h | h <;> first | exact one x h | exact src.one x h
  have repsA : Reps m noNames ((l ++ l2).flatMap AV.cells) (cs ++ cs2) := by rw [List.flatMap_append]; exact reps.append reps2
  unfold Oper.wp
  have hold : (Builtin.firstCells i.size l.length (.slice ad l.length l.length)).run P w.drew = .ok cs.toArray w.drew := by
    cases ad with
    | none =>
      obtain ⟨rfl, -⟩ := emp rfl
      have : cs = [] := List.eq_nil_of_length_eq_zero (by simpa using hlen1)
      subst this
      exact run_firstCells_none (P := P) w.drew _ _ _ _
    | some a1 =>
      obtain ⟨q1, q2⟩ := at_ a1 rfl
      exact run_firstCells_some (P := P) w.drew i.size l.length a1 _ _ cs (by rw [hi3]; exact hlen1) (by simpa using cells_at S.ws.imm q1 q2)
  have hrun := run_append_grow_src (P := P) w t tz o.type E i zv ht.under hi1 hi2 ad l.length l.length cs hold (a.eval z) l2.length cs2 (by rw [hi3]; exact src) (by omega) (by omega)
    (by rw [hi4]; exact growslice_fits (by omega) hlen)
  rw [run_append2 ho (v := _) (w' := _) (by rw [hv]; exact hrun), Oper.upon_value]
  generalize hcap2 : grownCap w (l.length + l2.length) l.length E = cap'
  have hge : l.length + l2.length ≤ cap' := by rw [← hcap2]; exact grownCap_ge w _ _ E
  have hzs : (Builtin.zeroCells zv.cells (cap' - (l.length + l2.length))).size = (cap' - (l.length + l2.length)) * sz := by rw [size_zeroCells, hi5]
  have hbare : Reps m bl ((l ++ l2).flatMap AV.cells) (cs ++ cs2) := repsA.widen (by simp [noNames])
  have hcl : (cs ++ cs2).length = (l.length + l2.length) * sz := by rw [List.length_append, hlen1, src.newsLen, Nat.add_mul]
  have hsz : ((cs ++ cs2).toArray ++ Builtin.zeroCells zv.cells (cap' - (l.length + l2.length))).size = cap' * sz := by
    rw [Array.size_append, hzs, List.size_toArray, hcl, ← Nat.add_mul]; congr 1; omega
  obtain ⟨q1, q2⟩ := S.ws.newOwn (w' := w.drew.alloc (.cells ((cs ++ cs2).toArray ++ Builtin.zeroCells zv.cells (cap' - (l.length + l2.length))) E)) (d := nm) (arr := (cs ++ cs2).toArray ++ Builtin.zeroCells zv.cells (cap' - (l.length + l2.length))) (T := E)
    (Z := (l ++ l2).flatMap AV.cells) (pre := cs ++ cs2) S.below.size hfree rfl (by rw [Array.toList_append]) hbare oneA
  rw [hsz] at q1 q2
  refine k _ _ _ m _ rfl ⟨?_, ?_, ((S.below.drew).alloc S.below.size _), q1, ?_, S.stk.widen q2, ?_⟩
  · simp [Act.put, hd, S.defers]
  · simp [Act.put, hd, S.size]
  · rw [hd]
    exact EnvRep.put (S.env.widen q2) (.rw (b := w.heap.size) (n := (cap' * sz, (cs ++ cs2).length)) (by simp [updN]) hcl.symm hge (Nat.le_refl _)) (by rw [S.size]; exact hdN d hd)
  · intro d' hd'
    obtain ⟨g1, g2⟩ := hf' d' hd'
    unfold updN; rw [if_neg (by simpa using g2)]; exact S.free d' g1
end
section
variable {P : Program} {tb : Tb} {ρ : Type} {cx : Ctx P tb}
def lAppO (cx : Ctx P tb) (N : Nat) (ops : Array Oper) (L : SLS tb) (gs : List Nat) (o : Oper) (c : Call) (k : SLS tb → List Nat → KL → Option ρ) : Option ρ :=
  got o.dst fun d => got (args2 c) fun a => got (types2 c) fun t => got (elemOf P tb t.1) fun p => got (opd L [] a.1) fun x => tst (Nat.ble 1 p.2.2) <| srcK P L p.1 t.2 a.2 fun l2 need => match x with
  | .sl true E' l => ifE E' p.1 fun h => Chk (0 < l2.length ∧ (l.length + l2.length) * p.2.2 ≤ 140737488355328) <| Let ((h ▸ l) ++ l2) fun l' => putN N gs L d (.rw L.nx p.1) (.arr p.1 l') fun L' => k L' gs ⟨o.looksAt ops, need, [d], [L.nx], [L.nx]⟩
  | _ => none
theorem lAppO_ok {N ops} {L : SLS tb} {gs o c} {k : SLS tb → List Nat → KL → Option ρ} {r} (hi : RI gs L.e) (hg : o.guard = none) (ho : o.op = .call c) (hb : c.callee = .builtin .append) (h : lAppO cx N ops L gs o c k = some r) : LOk P N ops o L k r := by
  unfold lAppO at h
  obtain ⟨d, hd, h⟩ := got_e h
  obtain ⟨⟨y, z⟩, ha, h⟩ := got_e h
  obtain ⟨⟨t, tz⟩, ht, h⟩ := got_e h
  obtain ⟨⟨E, E0, by_⟩, hp, h⟩ := got_e h
  obtain ⟨x, hx, h⟩ := got_e h
  obtain ⟨hby, h⟩ := tst_e h
  have ho : o.op = .call { callee := .builtin .append, args := #[y, z], argTypes := #[t, tz] } := by
    rw [ho]
    obtain ⟨c1, c2, c3⟩ := c
    have h1 := args2_e ha
    have h2 := types2_e ht
    simp only at h1 h2 hb
    rw [h1, h2, hb]
  have hET := elemOf_e hp
  have hby2 : 1 ≤ by_ := Nat.le_of_ble_eq_true hby
  have hy := opd_ok (Gu.nil hi.inv) hx
  obtain ⟨l2, need, h, hsrc, hnd⟩ := srcK_ok (o := o) cx hi.inv (by rw [ho]; simp [Op.operands, Call.operands]) h
  simp only at h hET hsrc
  split at h
  · rename_i E' l _ _
    obtain ⟨hE, h⟩ := ifE_e h
    subst hE
    obtain ⟨⟨hpos, hc⟩, h⟩ := Chk_e h
    have h := Let_e h
    refine putN_ok (rh := needH (needAV L need)) hi rfl (fun hN => ?_) (needH_mem.2 needAV_mem) needH_keys rfl rfl rfl rfl h
    have key := LEx.appC (ops := ops) (N := N) (nm := L.nx) hg hd hN ho hET hy hsrc (by rw [List.length_map]; exact hpos) (by rw [List.length_map, List.length_map]; exact hc) (by rw [List.length_map, List.length_map]; exact len63 hby2 hc)
    rw [← List.map_append] at key
    exact key
  · cases h
end
end Go.Rx
end

section
/-
  Calls whose results are new slices; operations run on symbolic states. No conditions.
-/
set_option linter.all false
namespace Go.Rx
open Go.RowKit
variable [GlC]

section
variable {P : Program} {tb : Tb} {ρ : Type} {cx : Ctx P tb}

theorem ownS_names {own : List Nat} : ∀ {l : List (SV tb)} {j k}, (∀ p ∈ (ownS own j k l).2, k ≤ p.1 ∧ p.1 < k + (ownS own j k l).2.length ∧ ∃ E xs, p.2 = .arr E xs)
  | [], _, _, p, hp => by simp [ownS] at hp
  | x :: l, j, k, p, hp => by
    rw [ownS_cons] at hp ⊢
    split at hp
    · rename_i E xs _ _
      simp only [List.mem_cons] at hp
      rcases hp with rfl | hp
      · exact ⟨Nat.le_refl _, by simp, _, _, rfl⟩
      · obtain ⟨h1, h2, h3⟩ := ownS_names p hp
        refine ⟨by omega, ?_, h3⟩
        simp only [List.length_cons]; omega
    · exact ownS_names p hp
theorem ownS_len {own : List Nat} : ∀ {l : List (SV tb)} {j k}, (ownS own j k l).1.length = l.length
  | [], _, _ => rfl
  | x :: l, j, k => by
    rw [ownS_cons]
    split <;> simp [ownS_len]
theorem ansS_names {cd : (i : tb.Ix) → Cd tb i} {own rs r k} : ∀ p ∈ (ansS tb cd own rs r k).2, k ≤ p.1 ∧ p.1 < k + (ansS tb cd own rs r k).2.length ∧ ∃ E xs, p.2 = .arr E xs := by
  match rs with
  | [] => intro p hp; simp [ansS] at hp
  | [i] =>
    cases own with
    | nil => intro p hp; simp [ansS] at hp
    | cons a b => intro p hp; exact ownS_names p hp
  | i :: j :: l => intro p hp; simp [ansS] at hp
theorem re_const {q : Nat → Option Nat} {x : AV} (h : x.isBare = true) : x = x.re q := (bare_of h).symm
theorem ansS_shift (cx : Ctx P tb) (own rs) (r : Tup tb rs) (b : Nat) : (ansS tb cx.cd own rs r b).1.av = (ansS tb cx.cd own rs r 0).1.av.re (fun i => some (i + b)) ∧
    (ansS tb cx.cd own rs r b).2.map (fun p => (p.1, p.2.av)) = shH b ((ansS tb cx.cd own rs r 0).2.map fun p => (p.1, p.2.av)) := by
  match rs with
  | [] => exact ⟨rfl, rfl⟩
  | [i] =>
    cases own with
    | nil =>
      refine ⟨re_const ?_, rfl⟩
      show ((cx.cd i).sv r).av.isBare = true
      exact (congrArg AV.isBare ((cx.ok i).sv r)).trans ((cx.ok i).bare r).1
    | cons a t =>
      have hb : allBare (avL ((cx.cd i).cs r)) = true := (congrArg allBare ((cx.ok i).cs r)).trans ((cx.ok i).bare r).2
      obtain ⟨h1, h2⟩ := ownS_av (own := a :: t) b (l := (cx.cd i).cs r) (j := 0) (k := 0) hb
      rw [Nat.zero_add] at h1 h2
      refine ⟨?_, h2⟩
      show (wrapS (cx.cd i) (ownS (a :: t) 0 b ((cx.cd i).cs r)).1).av = (wrapS (cx.cd i) (ownS (a :: t) 0 0 ((cx.cd i).cs r)).1).av.re _
      unfold wrapS
      split
      · show AV.agg (avL _) = (AV.agg (avL _)).re _
        rw [h1]; rfl
      · generalize (ownS (a :: t) 0 b ((cx.cd i).cs r)).1 = u at h1
        generalize (ownS (a :: t) 0 0 ((cx.cd i).cs r)).1 = v at h1
        cases u with
        | nil => cases v with
          | nil => rfl
          | cons => simp [avL, reL] at h1
        | cons x u => cases v with
          | nil => simp [avL, reL] at h1
          | cons y v =>
            simp only [avL, reL, List.cons.injEq] at h1
            exact h1.1
  | i :: j :: l =>
    refine ⟨re_const ?_, rfl⟩
    have := (ansS_av cx.cd cx.ok (i :: j :: l) r 0).1
    show (ansS tb cx.cd [] (i :: j :: l) r 0).1.av.isBare = true
    rw [this]
    exact resAV_bare cx _ _
theorem avH_append {g : Gn tb} : ∀ {a : SHp tb} {b}, (∀ p ∈ a, keepQ g p.1 = true ∧ ∃ E xs, p.2 = .arr E xs) → avH g (a ++ b) = a.map (fun p => (p.1, p.2.av)) ++ avH g b
  | [], _, _ => rfl
  | (i, c) :: a, b, h => by
    obtain ⟨h1, E, xs, h2⟩ := h (i, c) (by simp)
    simp only at h1 h2
    subst h2
    have ih := avH_append (a := a) (b := b) fun p hp => h p (List.mem_cons_of_mem _ hp)
    unfold avH at ih ⊢
    rw [List.cons_append, List.filter_cons, if_pos h1, List.map_cons, ih]; rfl
def allKeep (g : Gn tb) : SHp tb → Bool
  | [] => true
  | (i, _) :: r => match keepQ g i with | true => allKeep g r | false => false
theorem allKeep_e {g : Gn tb} : ∀ {a : SHp tb}, allKeep g a = true → ∀ p ∈ a, keepQ g p.1 = true
  | [], _, p, hp => by cases hp
  | (i, c) :: a, h, p, hp => by
    unfold allKeep at h
    split at h
    · rename_i h1
      rcases List.mem_cons.1 hp with rfl | hp
      · exact h1
      · exact allKeep_e h p hp
    · cases h
def lOwn (cx : Ctx P tb) (N : Nat) (ops : Array Oper) (L : SLS tb) (gs : List Nat) (o : Oper) (f : Nat) (xs : List (SV tb)) (con : Con P tb cx.cd) (k : SLS tb → List Nat → KL → Option ρ) : Option ρ :=
  got o.dst fun d => got (argsD cx con.ps xs) fun a => Bind (con.cf a) fun r =>
  tst (notOpt (ansS tb cx.cd con.own con.rs r L.nx).1) <| put N gs L d (ansS tb cx.cd con.own con.rs r L.nx).1 fun L' => tst (allKeep L.gn (ansS tb cx.cd con.own con.rs r L.nx).2) <|
    k { L' with h := (ansS tb cx.cd con.own con.rs r L.nx).2 ++ L.h, nx := L.nx + (ansS tb cx.cd con.own con.rs r L.nx).2.length } gs
      ⟨o.looksAt ops, [], [d], (ansS tb cx.cd con.own con.rs r L.nx).2.map (·.1), (ansS tb cx.cd con.own con.rs r L.nx).2.map (·.1)⟩
theorem lOwn_ok {N ops} {L : SLS tb} {gs o y args tys f caps xs con} {k : SLS tb → List Nat → KL → Option ρ} {r} (hi : RI gs L.e) (hg : o.guard = none) (ho : o.op = .call { callee := .value y, args, argTypes := tys }) (hy : opd L [] y = some (.fn f caps)) (hxs : opdsS L [] args.toList = some xs) (hcon : findCon f cx.Γ = some con)
    (h : lOwn cx N ops L gs o f (xs ++ caps) con k = some r) : LOk P N ops o L k r := by
  unfold lOwn at h
  obtain ⟨d, hd, h⟩ := got_e h
  obtain ⟨a, ha, h⟩ := got_e h
  obtain ⟨x, hx, h⟩ := Option.bind_eq_some_iff.1 (show (con.cf a).bind _ = some r from h)
  rw [con.cf_eq] at hx
  obtain ⟨h1, h⟩ := tst_e h
  obtain ⟨hN, hm, hx2, h⟩ := put_e h
  obtain ⟨h3, h⟩ := tst_e h
  have h3 := allKeep_e h3
  obtain ⟨vs, g1, g2, g3⟩ := argsD_ok ha
  have hf := con.ok a vs x g1 hx
  have hn := ansS_names (cd := cx.cd) (own := con.own) (rs := con.rs) (r := x) (k := L.nx)
  obtain ⟨s1, s2⟩ := ansS_shift cx con.own con.rs x L.nx
  have key := LEx.enterO (ops := ops) (N := N) (o := o) (e := L.E) (fn := con.fid) (ys := vs) (b := L.nx) hg hd hN (fun m bl ac w hrd => by
    obtain ⟨ws, hrun, hreps⟩ := run_enter (caps := avL caps) ho (by have := con.call; rwa [findCon_f hcon] at this) (opd_ok (Gu.nil hi.inv) hy) (opdsS_ok (Gu.nil hi.inv) hxs) w hrd
    rw [findCon_f hcon]
    refine ⟨ws, hrun, ?_⟩
    rw [← avL_append] at hreps
    have := (g2 _ _ _ hreps).bare (bl' := noNames)
    rwa [bareL, bareL_of g3] at this) hf (by
    intro p hp
    obtain ⟨q, hq, rfl⟩ := List.mem_map.1 hp
    obtain ⟨-, -, E, xs, hE⟩ := ansS_names q hq
    refine ⟨elC tb E xs, by simp only [hE]; rfl, el_bare cx xs⟩)
  rw [← s1, ← s2] at key
  have e2 : ((ansS tb cx.cd con.own con.rs x L.nx).2.map fun p => (p.1, p.2.av)).map (·.1) = (ansS tb cx.cd con.own con.rs x L.nx).2.map (·.1) := by simp
  rw [e2] at key
  refine ⟨_, _, _, _, h, ⟨reOf_keys, by simp, by simp, ?_, rfl⟩, key, reOf_mem.1, by simp, ?_, Nat.le_add_right _ _, rfl, rfl, ?_, ?_, ⟨[_], rfl⟩, ⟨_, rfl⟩, hi.put hm h1⟩
  · intro p hp
    obtain ⟨q, hq, rfl⟩ := List.mem_map.1 hp
    exact List.mem_map.2 ⟨q, hq, rfl⟩
  · intro y hy
    obtain ⟨q, hq, rfl⟩ := List.mem_map.1 hy
    exact ⟨(hn q hq).1, (hn q hq).2.1⟩
  · show (d, ((ansS tb cx.cd con.own con.rs x L.nx).1.res L.gn).av) :: _ = _
    rw [hx2]; rfl
  · exact avH_append fun p hp => ⟨h3 p hp, (hn p hp).2.2⟩

/-- Zeros appended to nothing: their number. -/
def isZer (P : Program) (c : Call) : Bool := match types2 c with
  | some t => (match P.underlying t.2 with | some D => (match isIntD D with | some _ => true | none => false) | none => false)
  | none => false
def lZer (cx : Ctx P tb) (N : Nat) (ops : Array Oper) (L : SLS tb) (gs : List Nat) (o : Oper) (c : Call) (k : SLS tb → List Nat → KL → Option ρ) : Option ρ :=
  got o.dst fun d => got (args2 c) fun y => got (types2 c) fun t => got (elemOf P tb t.1) fun p => got (zeroS P p.2.1) fun Z => got ((cx.cd p.1).ofC Z) fun z => got (P.underlying t.2) fun D => got (isIntD D) fun kd => got (opd L [] y.1) fun x => tst (isEm x) <| tst (emOk p.1 x) <| got (opd L [] y.2) fun b => got (asI b) fun n => tst (decide (n.1 = kd)) <|
  Chk (0 < n.2 ∧ n.2.toNat * p.2.2 ≤ 140737488355328 ∧ n.2 ≤ 9223372036854775807) <| Let (List.replicate n.2.toNat z) fun l => putN N gs L d (.rw L.nx p.1) (.arr p.1 l) fun L' => k L' gs ⟨o.looksAt ops, [], [d], [L.nx], [L.nx]⟩
theorem lZer_ok {N ops} {L : SLS tb} {gs o c} {k : SLS tb → List Nat → KL → Option ρ} {r} (hi : RI gs L.e) (hg : o.guard = none) (ho : o.op = .call c) (hb : c.callee = .builtin .append) (h : lZer cx N ops L gs o c k = some r) : LOk P N ops o L k r := by
  unfold lZer at h
  obtain ⟨d, hd, h⟩ := got_e h
  obtain ⟨y, hy', h⟩ := got_e h
  obtain ⟨t, ht', h⟩ := got_e h
  obtain ⟨p, hp, h⟩ := got_e h
  obtain ⟨Z, hZ, h⟩ := got_e h
  obtain ⟨z, hz, h⟩ := got_e h
  obtain ⟨D, hD, h⟩ := got_e h
  obtain ⟨kd, hkd, h⟩ := got_e h
  obtain ⟨x, hx, h⟩ := got_e h
  obtain ⟨hem, h⟩ := tst_e h
  obtain ⟨heo, h⟩ := tst_e h
  obtain ⟨b, hb2, h⟩ := got_e h
  obtain ⟨n, hn, h⟩ := got_e h
  obtain ⟨hk, h⟩ := tst_e h
  obtain ⟨⟨h1, h2, h3⟩, h⟩ := Chk_e h
  have hk := of_decide_eq_true hk
  have ho : o.op = .call { callee := .builtin .append, args := #[y.1, y.2], argTypes := #[t.1, t.2] } := by
    rw [ho]
    obtain ⟨c1, c2, c3⟩ := c
    have h1 := args2_e hy'
    have h2 := types2_e ht'
    simp only at h1 h2 hb
    rw [h1, h2, hb]
  have hxx := (opd_ok (Gu.nil hi.inv) hx).sub (isEm_e hem (emOk_e heo))
  have hbb := opd_ok (Gu.nil hi.inv) hb2
  rw [asI_e hn, hk] at hbb
  rw [isIntD_e hkd] at hD
  exact putN_ok (rh := []) hi rfl (fun hN => (LEx.appZ hg hd hN ho (elemOf_e hp) (zeroS_e hZ) (cx.ok p.1).pos hD hxx hbb h1 h2 h3).wsub (elC_replicate ((cx.ok p.1).ofC _ _ hz).1 _)) (by simp) (by simp) rfl rfl rfl rfl (Let_e h)

/-- Zeros written over a part of an own block (clear). -/
def lClear (cx : Ctx P tb) (ops : Array Oper) (L : SLS tb) (gs : List Nat) (o : Oper) (c : Call) (k : SLS tb → List Nat → KL → Option ρ) : Option ρ := match o.dst with
  | some _ => none
  | none => got (args1 c) fun y => got (elemOf P tb y.2) fun p => got (zeroS P p.2.1) fun Z => got ((cx.cd p.1).ofC Z) fun z => got (opd L [] y.1) fun x => match x with
    | .row id E off len mc => ifE E p.1 fun _ => got (arrAt L id p.1) fun l => Chk (off + len ≤ l.length ∧ 0 < mc) <| Let (l.take off ++ List.replicate len z ++ l.drop (off + len)) fun l' =>
        putH L id (.arr p.1 l') fun L' => k L' gs ⟨o.looksAt ops, [id], [], [id], []⟩
    | _ => none
theorem lClear_ok {N ops} {L : SLS tb} {gs o c} {k : SLS tb → List Nat → KL → Option ρ} {r} (hi : RI gs L.e) (hg : o.guard = none) (ho : o.op = .call c) (hb : c.callee = .builtin .clear) (h : lClear cx ops L gs o c k = some r) : LOk P N ops o L k r := by
  unfold lClear at h
  split at h
  · cases h
  · rename_i hd
    obtain ⟨⟨y, t⟩, hy', h⟩ := got_e h
    obtain ⟨⟨E, E0, by_⟩, hp, h⟩ := got_e h
    obtain ⟨Z, hZ, h⟩ := got_e h
    obtain ⟨z, hz, h⟩ := got_e h
    obtain ⟨x, hx, h⟩ := got_e h
    have ho : o.op = .call { callee := .builtin .clear, args := #[y], argTypes := #[t] } := by
      rw [ho]
      obtain ⟨c1, c2, c3⟩ := c
      obtain ⟨h1, h2⟩ := args1_e hy'
      simp only at h1 h2 hb
      rw [h1, h2, hb]
    have hET := elemOf_e hp
    have hy := opd_ok (Gu.nil hi.inv) hx
    have hof := (cx.ok E).ofC _ _ hz
    split at h
    · rename_i _ id E' off len mc
      obtain ⟨hE, h⟩ := ifE_e h
      subst hE
      obtain ⟨l, hl, h⟩ := got_e h
      obtain ⟨⟨h1, h3⟩, h⟩ := Chk_e h
      obtain ⟨hh, h⟩ := putH_e (Let_e h)
      have hl := arrAt_e hl
      have hZl : (avL Z).length = tb.sz E' := by rw [avL_length, hof.2]
      have hfl : (List.replicate len (avL Z)).flatten.length = len * tb.sz E' := by simp [hZl]
      have e1 : ∀ a b : List (tb.T E'), elC tb E' (a ++ b) = elC tb E' a ++ elC tb E' b := fun a b => by simp [elC]
      have e2 : ∀ n, elC tb E' (l.take n) = (elC tb E' l).take (n * tb.sz E') := fun n => by unfold elC; rw [flat_take n (elC_len cx.ok), List.map_take]
      have e3 : ∀ n, elC tb E' (l.drop n) = (elC tb E' l).drop (n * tb.sz E') := fun n => by unfold elC; rw [flat_drop n (elC_len cx.ok), List.map_drop]
      have key := LEx.clearR (ops := ops) (N := N) (need := [(id, elC tb E' l)]) (l := elC tb E' l) hg hd ho hET (zeroS_e hZ) hy (by simp)
        (by rw [hfl, elC_length cx, ← Nat.add_mul]; exact Nat.mul_le_mul_right _ h1) h3
      have key := key.wsub (Z' := elC tb E' (l.take off ++ List.replicate len z ++ l.drop (off + len))) (by
        rw [e1, e1, e2, e3, hfl, ← Nat.add_mul]
        exact ((SubL.refl _).append (elC_replicate hof.1 len)).append (SubL.refl _))
      refine ⟨_, _, _, _, h, ⟨reOf_keys, by simp [needH], by simp, by simp, rfl⟩, key, reOf_mem.1, ?_, by simp, Nat.le_refl _, rfl, rfl, rfl, ?_, ⟨[], rfl⟩, ⟨[_], rfl⟩, hi⟩
      · intro q hq
        simp [needH] at hq
        subst hq; exact hl
      · show avH L.gn _ = _
        rw [hh]; rfl
    · cases h

/-- A slice of given elements, of the call's own. -/
def lBuildA (cx : Ctx P tb) (N : Nat) (ops : Array Oper) (L : SLS tb) (gs : List Nat) (o : Oper) (t n : Nat) (ps : Array (Nat × Operand)) (k : SLS tb → List Nat → KL → Option ρ) : Option ρ :=
  got o.dst fun d => got (elemOf P tb t) fun p => got (fillS L [] (fun i => some (i * tb.sz p.1, tb.sz p.1)) ps.toList (List.replicate (n * tb.sz p.1) .undef)) fun Z =>
  tst (Nat.beq Z.length (n * tb.sz p.1)) <| tst (Nat.blt 0 n) <| tst (Nat.ble (n * tb.sz p.1) (2 ^ 24)) <| got (chop cx p.1 n Z) fun l => putN N gs L d (.rw L.nx p.1) (.arr p.1 l) fun L' => k L' gs ⟨o.looksAt ops, [], [d], [L.nx], [L.nx]⟩
theorem lBuildA_ok {N ops} {L : SLS tb} {gs o t n ps} {k : SLS tb → List Nat → KL → Option ρ} {r} (hi : RI gs L.e) (hg : o.guard = none) (ho : o.op = .buildSlice t n ps) (h : lBuildA cx N ops L gs o t n ps k = some r) : LOk P N ops o L k r := by
  unfold lBuildA at h
  obtain ⟨d, hd, h⟩ := got_e h
  obtain ⟨p, hp, h⟩ := got_e h
  obtain ⟨Z, hZ, h⟩ := got_e h
  obtain ⟨h2, h⟩ := tst_e h
  obtain ⟨h3, h⟩ := tst_e h
  obtain ⟨h4, h⟩ := tst_e h
  obtain ⟨l, hl, h⟩ := got_e h
  have hf := fillS_ok (Gu.nil hi.inv) hZ
  rw [avL_rep] at hf
  refine putN_ok (rh := []) hi rfl (fun hN => ?_) (by simp) (by simp) rfl rfl rfl rfl h
  exact (LEx.buildOwn (ops := ops) (N := N) (nm := L.nx) hg hd hN ho (elemOf_e hp) hf (by rw [avL_length]; exact Nat.eq_of_beq_eq_true h2) (Nat.le_of_ble_eq_true h3) (Nat.le_of_ble_eq_true h4)).wsub (chop_ok hl)
/-- Are the elements plain data? -/
def plainEl (P : Program) (tb : Tb) (t : Nat) : Bool := match ((P.underlying t).bind isSlD).bind tb.look with | some _ => true | none => false
/-- An operation that changes the state here and there. im: is the variable in that slot captured and never written again? -/
def lop (cx : Ctx P tb) (im : Nat → Bool) (N : Nat) (ops : Array Oper) (L : SLS tb) (gs : List Nat) (o : Oper) (k : SLS tb → List Nat → KL → Option ρ) : Option ρ := match o.guard with
  | some (j, w) => lg cx N ops L gs o j w k
  | none => match o.op with
    | .alloc T => lAlloc cx N ops L gs o T (match o.dst with | some d => im d | none => false) k
    | .buildSlice t n ps => (match plainEl P tb t with
      | true => (match (match o.dst with | some d => im d | none => false) with | true => lBuildA cx N ops L gs o t n ps k | false => lq cx N ops L gs o k)
      | false => lBuildO (P := P) N ops L gs o t n ps k)
    | .box _ y => lBox N ops L gs o y (match o.dst with | some d => im d | none => false) k
    | .store t y z => lStore cx ops L gs o t y z k
    | .makeSlice t x y => lMake cx N ops L gs o t x y k
    | .call c => (match c.callee with
      | .builtin .append => (match isZer P c with | true => lZer cx N ops L gs o c k | false => (match (match o.dst with | some d => im d | none => false) with | true => lAppO cx N ops L gs o c k | false => lApp cx N ops L gs o c k))
      | .builtin .clear => lClear cx ops L gs o c k
      | .value y => (match opd L [] y with
        | some (.fn f caps) => (match findHnd f cx.hnd with
          | some _ => lq cx N ops L gs o k
          | none => got (findCon f cx.Γ) fun con => (match con.own with
          | [] => lq cx N ops L gs o k
          | _ :: _ => got (opdsS L [] c.args.toList) fun xs => lOwn cx N ops L gs o f (xs ++ caps) con k))
        | _ => lq cx N ops L gs o k)
      | _ => lq cx N ops L gs o k)
    | _ => lq cx N ops L gs o k
theorem lop_ok {im N ops} {L : SLS tb} {gs o} {k : SLS tb → List Nat → KL → Option ρ} {r} (hi : RI gs L.e) (h : lop cx im N ops L gs o k = some r) : LOk P N ops o L k r := by
  unfold lop at h
  split at h
  · exact lg_ok hi ‹_› h
  · rename_i hg
    split at h
    · exact lAlloc_ok hi hg ‹_› h
    · split at h
      · split at h
        · exact lBuildA_ok hi hg ‹_› h
        · exact lq_ok hi hg h
      · exact lBuildO_ok hi hg ‹_› h
    · exact lBox_ok hi hg ‹_› h
    · exact lStore_ok hi hg ‹_› h
    · exact lMake_ok hi hg ‹_› h
    · rename_i c ho
      obtain ⟨ce, ar, ty⟩ := c
      split at h
      · rename_i hce
        split at h
        · exact lZer_ok hi hg ho hce h
        · split at h
          · exact lAppO_ok hi hg ho hce h
          · exact lApp_ok hi hg ho hce h
      · rename_i hce
        exact lClear_ok hi hg ho hce h
      · rename_i y hce
        simp only at hce; subst hce
        split at h
        · rename_i f caps hy
          split at h
          · exact lq_ok hi hg h
          obtain ⟨con, hcon, h⟩ := got_e h
          split at h
          · exact lq_ok hi hg h
          · obtain ⟨xs, hxs, h⟩ := got_e h
            exact lOwn_ok hi hg ho hy hxs hcon h
        · exact lq_ok hi hg h
      · exact lq_ok hi hg h
    · exact lq_ok hi hg h
end
end Go.Rx
end

section
/-
  Regions run on symbolic states. No conditions.
-/
set_option linter.all false
namespace Go.Rx
open Go.RowKit
variable [GlC]

section
variable {P : Program} {tb : Tb} {ρ : Type} {cx : Ctx P tb}

/-- The one state goes on from the other. -/
structure Ext (L L' : SLS tb) : Prop where
  s : L'.s = L.s
  e : ∃ p, L'.e = p ++ L.e
  h : ∃ p, L'.h = p ++ L.h
  nx : L.nx ≤ L'.nx
  gn : ∃ p, L'.gn = p ++ L.gn
theorem Ext.refl (L : SLS tb) : Ext L L := ⟨rfl, ⟨[], rfl⟩, ⟨[], rfl⟩, Nat.le_refl _, ⟨[], rfl⟩⟩
theorem Ext.trans {a b c : SLS tb} (h : Ext a b) (k : Ext b c) : Ext a c := by
  obtain ⟨h1, ⟨p1, h2⟩, ⟨p2, h3⟩, h4, ⟨p3, h5⟩⟩ := h
  obtain ⟨k1, ⟨q1, k2⟩, ⟨q2, k3⟩, k4, ⟨q3, k5⟩⟩ := k
  exact ⟨k1.trans h1, ⟨q1 ++ p1, by rw [k2, h2, List.append_assoc]⟩, ⟨q2 ++ p2, by rw [k3, h3, List.append_assoc]⟩, Nat.le_trans h4 k4, ⟨q3 ++ p3, by rw [k5, h5, List.append_assoc]⟩⟩

def runL (cx : Ctx P tb) (im : Nat → Bool) (N : Nat) (ops : Array Oper) : List Oper → SLS tb → List Nat → List KL → (SLS tb → List Nat → List KL → Option ρ) → Option ρ
  | [], L, gs, ks, k => k L gs ks
  | o :: os, L, gs, ks, k => lop cx im N ops L gs o fun L' gs' κ => runL cx im N ops os L' gs' (κ :: ks) k
inductive KsOf : List Loc → List KL → Prop
  | nil : KsOf [] []
  | cons {c κ cs ks} : KOf c κ → KsOf cs ks → KsOf (c :: cs) (κ :: ks)
theorem runL_ok {im N ops} : ∀ {os : List Oper} {L : SLS tb} {gs ks} {k : SLS tb → List Nat → List KL → Option ρ} {r}, RI gs L.e → runL cx im N ops os L gs ks k = some r →
    ∃ L' gs' ks2 cs, k L' gs' (ks2.reverse ++ ks) = some r ∧ RI gs' L'.e ∧ KsOf cs ks2 ∧ TrL P ops N os L.av.e L.av.h cs L'.av.e L'.av.h ∧ (∀ d ∈ namesOf cs, L.nx ≤ d ∧ d < L'.nx) ∧ Ext L L' ∧ L'.gn = L.gn
  | [], L, gs, ks, k, r, hi, h => ⟨L, gs, [], [], h, hi, .nil, .nil, by simp [namesOf], .refl L, rfl⟩
  | o :: os, L, gs, ks, k, r, hi, h => by
    obtain ⟨L1, gs1, κ, c, h1, h2, h3, h4, h5, h6, h7, h8, h9, h10, h11, h12, h13, h14⟩ := lop_ok hi (show lop cx im N ops L gs o _ = some r from h)
    obtain ⟨L2, gs2, ks2, cs, g1, g2, g3, g4, g5, g6, g7⟩ := runL_ok h14 h1
    refine ⟨L2, gs2, κ :: ks2, c :: cs, by simpa using g1, g2, .cons h2 g3, .cons h3 h4 h5 (by rw [← h10, ← h11]; exact g4), ?_, ?_, by rw [g7, h9]⟩
    · intro d hd
      simp only [namesOf, List.flatMap_cons, List.mem_append] at hd
      rcases hd with hd | hd
      · have := h6 d hd; have := g6.nx; omega
      · have := g5 d hd; omega
    · exact Ext.trans ⟨h8, h12, h13, h7, ⟨[], h9⟩⟩ g6

/-! orders -/
def kmeets : List Nat → List Nat → Bool
  | [], _ => false
  | t :: a, b => match memN t b with | true => true | false => kmeets a b
theorem kmeets_of {t : Nat} : ∀ {a b : List Nat}, t ∈ a → t ∈ b → kmeets a b = true
  | x :: a, b, h, h' => by
    unfold kmeets
    split
    · rfl
    · rename_i hm
      rcases List.mem_cons.1 h with rfl | h
      · rw [memN_e.2 h'] at hm; cases hm
      · exact kmeets_of h h'
theorem meets_k {α β : Type} {a : List (Nat × α)} {b : List (Nat × β)} {a' b' : List Nat} (h : meets a b = true) (ha : ∀ p ∈ a, p.1 ∈ a') (hb : ∀ p ∈ b, p.1 ∈ b') : kmeets a' b' = true := by
  unfold meets at h
  obtain ⟨p, hp, h⟩ := List.any_eq_true.1 h
  unfold hasKey at h
  obtain ⟨q, hq, h⟩ := List.any_eq_true.1 h
  have h : q.1 = p.1 := by simpa using h
  exact kmeets_of (ha p hp) (h ▸ hb q hq)
def kconf (a b : KL) : Bool := kmeets a.we b.we || kmeets a.we b.re || kmeets b.we a.re || kmeets a.wh b.wh || kmeets a.wh b.rh || kmeets b.wh a.rh
theorem conf_k {a b : Loc} {a' b' : KL} (h : a.conf b = true) (ha : KOf a a') (hb : KOf b b') : kconf a' b' = true := by
  unfold Loc.conf at h
  unfold kconf
  simp only [Bool.or_eq_true] at h ⊢
  rcases h with ((((h | h) | h) | h) | h) | h
  · exact .inl (.inl (.inl (.inl (.inl (meets_k h ha.we hb.we)))))
  · exact .inl (.inl (.inl (.inl (.inr (meets_k h ha.we hb.re)))))
  · exact .inl (.inl (.inl (.inr (meets_k h hb.we ha.re))))
  · exact .inl (.inl (.inr (meets_k h ha.wh hb.wh)))
  · exact .inl (.inr (meets_k h ha.wh hb.rh))
  · exact .inr (meets_k h hb.wh ha.rh)
def allLt (j : Nat) : List Nat → Bool
  | [] => true
  | x :: l => match Nat.blt x j with | true => allLt j l | false => false
theorem allLt_e {j : Nat} : ∀ {l : List Nat}, allLt j l = true → l.all (· < j) = true
  | [], _ => rfl
  | x :: l, h => by
    unfold allLt at h
    split at h
    · rename_i hb
      simp only [List.all_cons, Bool.and_eq_true, decide_eq_true_eq]
      exact ⟨Nat.le_of_ble_eq_true hb, allLt_e h⟩
    · cases h
def okE (m : Nat) (κ : KL) : Nat → List KL → Bool
  | _, [] => true
  | i, e :: es => match kconf e κ with
    | true => (match bitB m (i - 1) with | true => okE m κ (i - 1) es | false => false)
    | false => okE m κ (i - 1) es
theorem okE_e {m : Nat} {κ : KL} : ∀ {er : List KL}, okE m κ er.length er = true → ∀ (i : Nat) e, er.reverse[i]? = some e → kconf e κ = true → bitB m i = true
  | [], _, i, e, h, _ => by simp at h
  | e0 :: es, h, i, e, he, hc => by
    have hl : (e0 :: es).length - 1 = es.length := by simp
    unfold okE at h
    rw [hl] at h
    rw [List.reverse_cons] at he
    rcases Nat.lt_or_ge i es.length with hlt | hge
    · rw [List.getElem?_append_left (by simpa using hlt)] at he
      refine okE_e (er := es) ?_ i e he hc
      split at h
      · split at h
        · exact h
        · cases h
      · exact h
    · rw [List.getElem?_append_right (by simpa using hge), List.length_reverse] at he
      have hi : i = es.length := by
        rcases Nat.lt_or_ge (i - es.length) 1 with h1 | h1
        · omega
        · rw [List.getElem?_eq_none (by simpa using h1)] at he; cases he
      subst hi
      simp at he
      subst he
      rw [hc] at h
      simp only at h
      split at h
      · rename_i hm; exact hm
      · cases h
def locOkK : List KL → List (Nat × Nat) → Nat → List Oper → List KL → Bool
  | er, an, j, o :: os, κ :: ks => (match allLt j (depsOf o) with | true => (match okE (ancM an (depsOf o)) κ j er with | true => locOkK (κ :: er) ((j, ancM an (depsOf o)) :: an) (j + 1) os ks | false => false) | false => false)
  | _, _, _, _, _ => true
theorem KsOf.get {cs : List Loc} {ks : List KL} (h : KsOf cs ks) : ∀ (i : Nat) c, cs[i]? = some c → ∃ κ, ks[i]? = some κ ∧ KOf c κ := by
  induction h with
  | nil => intro i c h; simp at h
  | cons h t ih =>
    intro i c hc
    cases i with
    | zero => simp at hc; subst hc; exact ⟨_, rfl, h⟩
    | succ i => simpa using ih i c (by simpa using hc)
theorem KsOf.length {cs : List Loc} {ks : List KL} (h : KsOf cs ks) : cs.length = ks.length := by
  induction h with
  | nil => rfl
  | cons _ _ ih => simp [ih]
theorem KsOf.snoc {cs : List Loc} {ks : List KL} {c κ} (h : KsOf cs ks) (k : KOf c κ) : KsOf (cs ++ [c]) (ks ++ [κ]) := by
  induction h with
  | nil => exact .cons k .nil
  | cons h t ih => exact .cons h ih
theorem locOkK_e : ∀ {os : List Oper} {ec : List Loc} {er : List KL} {an cs ks}, KsOf ec er.reverse → KsOf cs ks → locOkK er an er.length os ks = true → locOkFrom ec an ec.length os cs = true
  | [], _, _, _, _, _, _, _, _ => by simp [locOkFrom]
  | o :: os, ec, er, an, _, _, he, .nil, _ => by simp [locOkFrom]
  | o :: os, ec, er, an, c :: cs, κ :: ks, he, .cons h t, hk => by
    have hlen : ec.length = er.length := by rw [he.length, List.length_reverse]
    unfold locOkK at hk
    split at hk
    · rename_i h1
      split at hk
      · rename_i h2
        unfold locOkFrom
        simp only [Bool.and_eq_true]
        refine ⟨⟨by rw [hlen]; exact allLt_e h1, ?_⟩, ?_⟩
        · rw [List.all_eq_true]
          rintro ⟨c', i⟩ hm
          have hm := List.mem_zipIdx_iff_getElem?.1 hm
          simp only at hm
          simp only [Bool.or_eq_true, Bool.not_eq_true']
          rcases Bool.eq_false_or_eq_true (c'.conf c) with hc | hc
          · refine .inr ?_
            obtain ⟨κ', hκ, hko⟩ := he.get i c' hm
            exact okE_e h2 i κ' hκ (conf_k hc hko h)
          · exact .inl hc
        · have := locOkK_e (os := os) (ec := ec ++ [c]) (er := κ :: er) (an := (er.length, ancM an (depsOf o)) :: an) (cs := cs) (ks := ks) (by rw [List.reverse_cons]; exact he.snoc h) t hk
          rw [hlen]
          simpa [hlen] using this
      · cases hk
    · cases hk
def kNames (ks : List KL) : List Nat := ks.flatMap (·.nm)
theorem KsOf.names {cs : List Loc} {ks : List KL} (h : KsOf cs ks) : namesOf cs = kNames ks := by
  induction h with
  | nil => rfl
  | cons h t ih =>
    simp only [namesOf, kNames, List.flatMap_cons] at ih ⊢
    rw [ih, h.nm]

/-! in text order -/
theorem Tells.f {e s h} {f f' : Nat → Prop} (hf : ∀ d, f' d → f d) : Tells ⟨e, s, h, f⟩ ⟨e, s, h, f'⟩ :=
  fun _ _ _ _ _ _ m bl S => ⟨m, bl, S.weaken (fun _ _ h => h) (fun _ _ h => h) hf rfl⟩
theorem TrL.go {N ops} {os : List Oper} {e h cs e' h'} (t : TrL P ops N os e h cs e' h') : ∀ (st : List Env) (f : Nat → Prop) (rest : List Oper) (K : LS → Prop), nodupB (namesOf cs) = true → (∀ d ∈ namesOf cs, f d) →
    GoT P ops N rest K ⟨e', st, h', fun y => f y ∧ y ∉ namesOf cs⟩ → GoT P ops N (os ++ rest) K ⟨e, st, h, f⟩ := by
  induction t with
  | nil =>
    intro st f rest K _ _ k
    exact GoT.tells (Tells.f fun d hd => hd.1) k
  | cons h1 h2 h3 t ih =>
    intro st f rest K hn hin k
    have hn2 := nodupB_spec hn
    simp only [namesOf, List.flatMap_cons] at hn2 hin
    rw [List.nodup_append] at hn2
    refine h1.text h2 h3 (fun d hd => hin d (List.mem_append_left _ hd)) (f' := fun y => f y ∧ y ∉ Loc.nm _) (fun y hy => hy) ?_
    refine ih st _ rest K (of_nodup hn2.2.1) ?_ ?_
    · intro d hd
      exact ⟨hin d (List.mem_append_right _ hd), fun hc => hn2.2.2 d hc d hd rfl⟩
    · refine GoT.tells (Tells.f ?_) k
      rintro d ⟨g1, g2⟩
      simp only [namesOf, List.flatMap_cons, List.mem_append, not_or] at g2
      exact ⟨⟨g1, g2.1⟩, g2.2⟩
where
  of_nodup : ∀ {l : List Nat}, l.Nodup → nodupB l = true
    | [], _ => rfl
    | x :: l, h => by
      rw [List.nodup_cons] at h
      unfold nodupB
      simp [h.1, of_nodup h.2]
end
end Go.Rx
end
