/-
  Operations that write, run on symbolic states. No conditions.
-/
import Derived.Test.YtdknhngjfoaphaaGreatRxW
set_option linter.all false
namespace Go.Rx
open Go.RowKit

theorem WSim.subB {B m0 id Z Z' h m bl w} (s : WSim B m0 ((id, .cells Z) :: h) m bl w) (hs : SubL Z Z') : WSim B m0 ((id, .cells Z') :: h) m bl w := by
  refine ⟨s.imm, s.le, s.grow, ?_, ?_, s.own, s.inj⟩
  · intro i l hf
    rw [find_cons] at hf
    split at hf
    · rename_i hi; subst hi
      cases hf
      rcases s.blk id Z (by rw [find_cons, if_pos rfl]) with ⟨h1, h2⟩ | ⟨b, n, arr, T, pre, rest, g1, g2, g3, g4, g5, g6⟩
      · refine .inl ⟨h1, ?_⟩
        subst h2
        have := hs m bl [] .nil
        cases this; rfl
      · exact .inr ⟨b, n, arr, T, pre, rest, g1, g2, g3, g4, hs _ _ _ g5, g6⟩
    · rename_i hi
      exact s.blk i l (by rw [find_cons, if_neg hi]; exact hf)
  · intro i x p hf
    rw [find_cons] at hf
    split at hf
    · cases hf
    · rename_i hi
      exact s.it i x p (by rw [find_cons, if_neg hi]; exact hf)
/-- What is written is told otherwise. -/
theorem LEx.wsub {P ops N o re rh we id Z Z' nm} (h : LEx P ops N o ⟨re, rh, we, [(id, .cells Z)], nm⟩) (hs : SubL Z Z') : LEx P ops N o ⟨re, rh, we, [(id, .cells Z')], nm⟩ := by
  intro e s h0 f f' h1 h2 h3 h4 W0 m0 sa m bl a w S next Q k
  refine h e s h0 f f' h1 h2 h3 h4 W0 m0 sa m bl a w S next Q ?_
  intro a' w' m' bl' S'
  exact k a' w' m' bl' ⟨S'.defers, S'.size, S'.below, S'.ws.subB hs, S'.env, S'.stk, S'.free⟩

section
variable {P : Program} {tb : Tb} {ρ : Type} {cx : Ctx P tb}

/-- The block id holds c. -/
def putH (L : SLS tb) (id : Nat) (c : SC tb) (k : SLS tb → Option ρ) : Option ρ := tst (keepQ L.gn id) <| tst (c.has (keepQ L.gn)) <| k { L with h := (id, c) :: L.h }
theorem SC.res_keep {g : Gn tb} {c : SC tb} (h : c.has (keepQ g) = true) : c.res g = c := by
  cases c with
  | cells l => show SC.cells _ = _; rw [resL_keep h]
  | arr E l => rfl
  | iter s p => rfl
theorem putH_e {L : SLS tb} {id c} {k : SLS tb → Option ρ} {r} (h : putH L id c k = some r) : avH L.gn ((id, c) :: L.h) = (id, c.av) :: avH L.gn L.h ∧ k { L with h := (id, c) :: L.h } = some r := by
  obtain ⟨h1, h⟩ := tst_e h
  obtain ⟨h2, h⟩ := tst_e h
  refine ⟨?_, h⟩
  unfold avH
  rw [List.filter_cons, if_pos h1, List.map_cons, SC.res_keep h2]
/-- A new block that the slot d points to. -/
def putN (N : Nat) (gs : List Nat) (L : SLS tb) (d : Nat) (x : SV tb) (c : SC tb) (k : SLS tb → Option ρ) : Option ρ :=
  tst (notOpt x) <| put N gs L d x fun L' => putH L' L.nx c fun L'' => k { L'' with nx := L.nx + 1 }

/-- Cells as elements. -/
def chop (cx : Ctx P tb) (E : tb.Ix) : Nat → List (SV tb) → Option (List (tb.T E))
  | 0, l => tst (isE l) (some [])
  | n + 1, l => got ((cx.cd E).ofC (l.take (tb.sz E))) fun z => got (chop cx E n (l.drop (tb.sz E))) fun r => some (z :: r)
theorem chop_ok {E : tb.Ix} : ∀ {n : Nat} {l : List (SV tb)} {r}, chop cx E n l = some r → SubL (avL l) (elC tb E r)
  | 0, l, r, h => by
    obtain ⟨h1, h⟩ := tst_e h
    cases h
    rw [isE_e h1]; exact .refl _
  | n + 1, l, r, h => by
    obtain ⟨z, hz, h⟩ := got_e (show got ((cx.cd E).ofC (l.take (tb.sz E))) _ = some r from h)
    obtain ⟨r', hr, h⟩ := got_e h
    cases h
    have h1 := ((cx.ok E).ofC _ _ hz).1
    have h2 := h1.append (chop_ok hr)
    rw [← avL_append, List.take_append_drop] at h2
    exact h2
def bigAr : TypeDesc → Option (Nat × Nat)
  | .array n e => match Nat.blt 4 n with | true => some (n, e) | false => none
  | _ => none
def someAr : TypeDesc → Option (Nat × Nat)
  | .array n e => some (n, e)
  | _ => none
def lAlloc (cx : Ctx P tb) (N : Nat) (ops : Array Oper) (L : SLS tb) (gs : List Nat) (o : Oper) (T : Nat) (im : Bool) (k : SLS tb → List Nat → KL → Option ρ) : Option ρ :=
  got o.dst fun d => got (zeroS P T) fun Z => match (P.underlying T).bind (match im with | true => someAr | false => bigAr) with
  | some p => got (tb.look p.2) fun E => got (chop cx E p.1 Z) fun l => putN N gs L d (.ptr L.nx 0) (.arr E l) fun L' => k L' gs ⟨o.looksAt ops, [], [d], [L.nx], [L.nx]⟩
  | none => putN N gs L d (.ptr L.nx 0) (.cells Z) fun L' => k L' gs ⟨o.looksAt ops, [], [d], [L.nx], [L.nx]⟩
theorem putN_ok {N ops} {L : SLS tb} {gs o d x c Z} {rh : Hp} {k : SLS tb → List Nat → KL → Option ρ} {κ r} (hi : RI gs L.e) (hc : c.av = .cells Z)
    (hl : d < N → LEx P ops N o ⟨reOf L.E (o.looksAt ops), rh, [(d, x.av)], [(L.nx, .cells Z)], [L.nx]⟩) (hrh : ∀ p ∈ rh, find p.1 L.av.h = some p.2) (hk : ∀ p ∈ rh, p.1 ∈ κ.rh) (h1 : κ.re = o.looksAt ops) (h2 : κ.we = [d]) (h3 : κ.wh = [L.nx]) (h4 : κ.nm = [L.nx])
    (h : putN N gs L d x c (fun L' => k L' gs κ) = some r) : LOk P N ops o L k r := by
  unfold putN at h
  obtain ⟨ho, h⟩ := tst_e h
  obtain ⟨hN, hm, hx, h⟩ := put_e h
  obtain ⟨hh, h⟩ := putH_e h
  refine ⟨_, _, _, _, h, ⟨?_, hk, ?_, ?_, h4.symm⟩, hl hN, reOf_mem.1, hrh, ?_, Nat.le_succ _, rfl, rfl, ?_, ?_, ⟨[_], rfl⟩, ⟨[_], rfl⟩, hi.put hm ho⟩
  · rw [h1]; exact reOf_keys
  · rw [h2]; simp
  · rw [h3]; simp
  · intro y hy; simp at hy; subst hy; exact ⟨Nat.le_refl _, Nat.lt_succ_self _⟩
  · show (d, (x.res L.gn).av) :: _ = _
    rw [hx]; rfl
  · show avH L.gn ((L.nx, c) :: L.h) = _
    rw [hh, hc]; rfl
theorem lAlloc_ok {N ops} {L : SLS tb} {gs o T im} {k : SLS tb → List Nat → KL → Option ρ} {r} (hi : RI gs L.e) (hg : o.guard = none) (ho : o.op = .alloc T) (h : lAlloc cx N ops L gs o T im k = some r) : LOk P N ops o L k r := by
  unfold lAlloc at h
  obtain ⟨d, hd, h⟩ := got_e h
  obtain ⟨Z, hZ, h⟩ := got_e h
  split at h
  · obtain ⟨E, hE, h⟩ := got_e h
    obtain ⟨l, hl, h⟩ := got_e h
    exact putN_ok (rh := []) hi rfl (fun hN => (LEx.alloc hg ho (zeroS_e hZ) hd hN).wsub (chop_ok hl)) (by simp) (by simp) rfl rfl rfl rfl h
  exact putN_ok (rh := []) hi rfl (fun hN => LEx.alloc hg ho (zeroS_e hZ) hd hN) (by simp) (by simp) rfl rfl rfl rfl h
def lBox (N : Nat) (ops : Array Oper) (L : SLS tb) (gs : List Nat) (o : Oper) (y : Operand) (im : Bool) (k : SLS tb → List Nat → KL → Option ρ) : Option ρ :=
  got o.dst fun d => got (opd L [] y) fun x => tst (solidS x) (match im with
  | true => tst (hasL (fun _ => false) (cellsS x)) <| put N gs L d (.cp (cellsS x)) fun L' => k L' gs ⟨o.looksAt ops, [], [d], [], []⟩
  | false => putN N gs L d (.ptr L.nx 0) (.cells (cellsS x)) fun L' => k L' gs ⟨o.looksAt ops, [], [d], [L.nx], [L.nx]⟩)
theorem lBox_ok {N ops} {L : SLS tb} {gs o T y im} {k : SLS tb → List Nat → KL → Option ρ} {r} (hi : RI gs L.e) (hg : o.guard = none) (ho : o.op = .box T y) (h : lBox N ops L gs o y im k = some r) : LOk P N ops o L k r := by
  unfold lBox at h
  obtain ⟨d, hd, h⟩ := got_e h
  obtain ⟨x, hx, h⟩ := got_e h
  obtain ⟨hs, h⟩ := tst_e h
  obtain ⟨g1, g2⟩ := solidS_e hs
  have hy := opd_ok (Gu.nil hi.inv) hx
  split at h
  · obtain ⟨hb, h⟩ := tst_e h
    obtain ⟨hN, hm, hx2, h⟩ := put_e h
    have hb2 := hasL_bare hb
    rw [g2] at hb2
    refine ⟨_, _, _, _, h, ⟨reOf_keys, by simp [needH], by simp, by simp, rfl⟩, LEx.q hg (QEx.boxC ho hy g1 hb2) hd hN, reOf_mem.1, by simp [needH], by simp, Nat.le_refl _, rfl, rfl, ?_, rfl, ⟨[_], rfl⟩, ⟨[], rfl⟩, hi.put hm rfl⟩
    show (d, AV.cptr (avL (cellsS x))) :: _ = _
    rw [g2]; rfl
  · exact putN_ok (rh := []) hi (by show ABlk.cells _ = _; rw [g2]) (fun hN => LEx.box hg ho hy g1 hd hN) (by simp) (by simp) rfl rfl rfl rfl h

/-! stores -/
def lStore (cx : Ctx P tb) (ops : Array Oper) (L : SLS tb) (gs : List Nat) (o : Oper) (t : Nat) (y z : Operand) (k : SLS tb → List Nat → KL → Option ρ) : Option ρ := match o.dst with
  | some _ => none
  | none => got (opd L [] y) fun p => got (opd L [] z) fun x => got (tSz P t) fun n => tst (solidS x) <| tst (Nat.beq (cellsS x).length n) (match p with
    | .ptr id off => got (cellsAt L id) fun l => tst (Nat.ble (off + n) l.length) <| putH L id (.cells (l.take off ++ cellsS x ++ l.drop (off + n))) fun L' => k L' gs ⟨o.looksAt ops, [id], [], [id], []⟩
    | .epr id E i fo => got (arrAt L id E) fun l => tst (Nat.ble (fo + n) (tb.sz E)) <| Chk (0 ≤ i ∧ i < l.length) <| got ((cx.cd E).ofC (((cx.cd E).cs (ixd (cx.cd E).inh l i)).take fo ++ cellsS x ++ ((cx.cd E).cs (ixd (cx.cd E).inh l i)).drop (fo + n))) fun v =>
      Let (l.set i.toNat v) fun l' => putH L id (.arr E l') fun L' => k L' gs ⟨o.looksAt ops, [id], [], [id], []⟩
    | _ => none)
theorem Let_e {β ρ : Type} {v : β} {k : β → Option ρ} {r : ρ} (h : Let v k = some r) : k v = some r := h
theorem Chk_e {α : Type} {c : Prop} [Decidable c] {k : Option α} {r : α} (h : Chk c k = some r) : c ∧ k = some r := by
  unfold Chk at h; split at h
  · exact ⟨‹_›, h⟩
  · cases h
theorem elC_set {E : tb.Ix} : ∀ {l : List (tb.T E)} {i : Nat} {v : tb.T E}, i < l.length → (∀ x, (tb.el E x).cells.length = tb.sz E) → elC tb E (l.set i v) = (elC tb E l).take (i * tb.sz E) ++ (tb.el E v).cells ++ (elC tb E l).drop ((i + 1) * tb.sz E)
  | x :: l, 0, v, _, hc => by
    simp only [elC, List.set_cons_zero, List.map_cons, List.flatMap_cons, Nat.zero_mul, List.take_zero, List.nil_append, Nat.zero_add, Nat.one_mul]
    rw [← hc x, List.drop_left]
  | x :: l, i + 1, v, h, hc => by
    have ih := elC_set (l := l) (i := i) (v := v) (by simpa using h) hc
    have e1 : ∀ z, elC tb E (x :: z) = (tb.el E x).cells ++ elC tb E z := fun z => rfl
    have h1 : (i + 1) * tb.sz E = (tb.el E x).cells.length + i * tb.sz E := by rw [hc, Nat.add_mul]; omega
    have h2 : (i + 1 + 1) * tb.sz E = (tb.el E x).cells.length + (i + 1) * tb.sz E := by rw [hc, Nat.add_mul (i + 1)]; omega
    rw [List.set_cons_succ, e1, e1, ih, h2, h1, List.take_length_add_append, List.drop_length_add_append]
    simp [List.append_assoc]
theorem lStore_ok {N ops} {L : SLS tb} {gs o t y z} {k : SLS tb → List Nat → KL → Option ρ} {r} (hi : RI gs L.e) (hg : o.guard = none) (ho : o.op = .store t y z) (h : lStore cx ops L gs o t y z k = some r) : LOk P N ops o L k r := by
  unfold lStore at h
  split at h
  · cases h
  · rename_i hd
    obtain ⟨p, hp, h⟩ := got_e h
    obtain ⟨x, hx, h⟩ := got_e h
    obtain ⟨n, hn, h⟩ := got_e h
    obtain ⟨hs, h⟩ := tst_e h
    obtain ⟨hlen, h⟩ := tst_e h
    have hlen := Nat.eq_of_beq_eq_true hlen
    obtain ⟨g1, g2⟩ := solidS_e hs
    have hy := opd_ok (Gu.nil hi.inv) hp
    have hz := opd_ok (Gu.nil hi.inv) hx
    have hl2 : x.av.cells.length = n := by rw [← g2, avL_length, hlen]
    split at h
    · obtain ⟨l, hl, h⟩ := got_e h
      obtain ⟨hf, h⟩ := tst_e h
      obtain ⟨hh, h⟩ := putH_e h
      have hl := cellsAt_e hl
      have key := LEx.store (l := avL l) (ops := ops) (N := N) hg ho hd hn hy hz g1 hl2 (by rw [avL_length]; exact Nat.le_of_ble_eq_true hf)
      refine ⟨_, _, _, _, h, ⟨reOf_keys, by simp, by simp, by simp, rfl⟩, key, reOf_mem.1, ?_, by simp, Nat.le_refl _, rfl, rfl, rfl, ?_, ⟨[], rfl⟩, ⟨[_], rfl⟩, hi⟩
      · intro q hq; simp at hq; subst hq; exact hl
      · show avH L.gn _ = _
        rw [hh]
        show (_, ABlk.cells (avL (l.take _ ++ cellsS x ++ l.drop _))) :: _ = _
        rw [avL_append, avL_append, avL_take, avL_drop, g2]; rfl
    · rename_i id E i fo _ _ _ _
      obtain ⟨l, hl, h⟩ := got_e h
      obtain ⟨hf, h⟩ := tst_e h
      have hf := Nat.le_of_ble_eq_true hf
      obtain ⟨hc, h⟩ := Chk_e h
      obtain ⟨v, hv, h⟩ := got_e h
      obtain ⟨hh, h⟩ := putH_e (Let_e h)
      have hl := arrAt_e hl
      have hlt : i.toNat < l.length := by omega
      have hm := Nat.mul_le_mul_right (tb.sz E) (show i.toNat + 1 ≤ l.length from hlt)
      rw [Nat.add_mul, Nat.one_mul] at hm
      have key := LEx.store (l := elC tb E l) (ops := ops) (N := N) hg ho hd hn hy hz g1 hl2 (by rw [elC_length cx]; omega)
      have hsub := ((cx.ok E).ofC _ _ hv).1
      rw [avL_append, avL_append, avL_take, avL_drop, g2, ← elC_at cx hc] at hsub
      have key := key.wsub (Z' := elC tb E (l.set i.toNat v)) (by
        rw [elC_set hlt (cx.ok E).len]
        have e1 : (elC tb E l).take (i.toNat * tb.sz E + fo) = (elC tb E l).take (i.toNat * tb.sz E) ++ (((elC tb E l).drop (i.toNat * tb.sz E)).take (tb.sz E)).take fo := by
          rw [List.take_take, Nat.min_eq_left (by omega), List.take_add]
        have e2 : (elC tb E l).drop (i.toNat * tb.sz E + fo + n) = (((elC tb E l).drop (i.toNat * tb.sz E)).take (tb.sz E)).drop (fo + n) ++ (elC tb E l).drop ((i.toNat + 1) * tb.sz E) := by
          rw [List.drop_take, List.drop_drop, Nat.add_mul, Nat.one_mul]
          have := List.take_append_drop (tb.sz E - (fo + n)) ((elC tb E l).drop (i.toNat * tb.sz E + (fo + n)))
          rw [List.drop_drop] at this
          rw [show i.toNat * tb.sz E + tb.sz E = i.toNat * tb.sz E + (fo + n) + (tb.sz E - (fo + n)) by omega, this, Nat.add_assoc]
        rw [e1, e2]
        have := ((SubL.refl ((elC tb E l).take (i.toNat * tb.sz E))).append hsub).append (SubL.refl ((elC tb E l).drop ((i.toNat + 1) * tb.sz E)))
        simpa only [List.append_assoc] using this)
      refine ⟨_, _, _, _, h, ⟨reOf_keys, by simp, by simp, by simp, rfl⟩, key, reOf_mem.1, ?_, by simp, Nat.le_refl _, rfl, rfl, rfl, ?_, ⟨[], rfl⟩, ⟨[_], rfl⟩, hi⟩
      · intro q hq; simp at hq; subst hq; exact hl
      · show avH L.gn _ = _
        rw [hh]; rfl
    · cases h
end
end Go.Rx
