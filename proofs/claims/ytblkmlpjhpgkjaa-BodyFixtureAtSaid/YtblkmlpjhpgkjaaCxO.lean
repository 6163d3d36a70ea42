/-
  States that meet again: names go free, tokens are renamed; loops; how a call's plain form is taken apart. No conditions.
-/
import Derived.Test.YtblkmlpjhpgkjaaCxN
import Derived.Test.YtblkmlpjhpgkjaaCxM
set_option linter.all false
namespace Go.Cx
open Go.RowKit

/-- The name that d is renamed to. -/
def lk (d : Nat) : List (Nat × Nat) → Option Nat
  | [] => none
  | (a, b) :: r => if a = d then some b else lk d r
/-- The name that is renamed to d. -/
def rlk (d : Nat) : List (Nat × Nat) → Option Nat
  | [] => none
  | (a, b) :: r => if b = d then some a else rlk d r

theorem lk_none {d : Nat} : ∀ {rn : List (Nat × Nat)}, lk d rn = none → ∀ p ∈ rn, p.1 ≠ d
  | [], _, p, hp => by simp at hp
  | (a, b) :: r, h, p, hp => by
    simp only [lk] at h
    split at h
    · cases h
    · rename_i hne
      rcases List.mem_cons.1 hp with rfl | hp
      · exact hne
      · exact lk_none h p hp
theorem lk_some {d d' : Nat} : ∀ {rn : List (Nat × Nat)}, lk d rn = some d' → (d, d') ∈ rn
  | [], h => by simp [lk] at h
  | (a, b) :: r, h => by
    simp only [lk] at h
    split at h
    · rename_i he; subst he; simp at h; subst h; simp
    · exact List.mem_cons_of_mem _ (lk_some h)
theorem rlk_none {d : Nat} : ∀ {rn : List (Nat × Nat)}, rlk d rn = none → ∀ p ∈ rn, p.2 ≠ d
  | [], _, p, hp => by simp at hp
  | (a, b) :: r, h, p, hp => by
    simp only [rlk] at h
    split at h
    · cases h
    · rename_i hne
      rcases List.mem_cons.1 hp with rfl | hp
      · exact hne
      · exact rlk_none h p hp
theorem rlk_some {d d' : Nat} : ∀ {rn : List (Nat × Nat)}, rlk d rn = some d' → (d', d) ∈ rn
  | [], h => by simp [rlk] at h
  | (a, b) :: r, h => by
    simp only [rlk] at h
    split at h
    · rename_i he; subst he; simp at h; subst h; simp
    · exact List.mem_cons_of_mem _ (rlk_some h)

theorem nodup_fst {l : List (Nat × Nat)} (h : nodupB (l.map (·.1)) = true) {a b c : Nat} (h1 : (a, b) ∈ l) (h2 : (a, c) ∈ l) : b = c := by
  have hn := nodupB_spec h
  induction l with
  | nil => simp at h1
  | cons p l ih =>
    simp only [List.map_cons, nodupB, Bool.and_eq_true] at h
    simp only [List.map_cons, List.nodup_cons] at hn
    rcases List.mem_cons.1 h1 with rfl | h1'
    · rcases List.mem_cons.1 h2 with h2' | h2'
      · simpa using (congrArg Prod.snd h2').symm
      · exact absurd (List.mem_map.2 ⟨_, h2', rfl⟩) hn.1
    · rcases List.mem_cons.1 h2 with rfl | h2'
      · exact absurd (List.mem_map.2 ⟨_, h1', rfl⟩) hn.1
      · exact ih h.2 h1' h2' hn.2
theorem nodup_snd {l : List (Nat × Nat)} (h : nodupB (l.map (·.2)) = true) {a b c : Nat} (h1 : (b, a) ∈ l) (h2 : (c, a) ∈ l) : b = c := by
  have hn := nodupB_spec h
  induction l with
  | nil => simp at h1
  | cons p l ih =>
    simp only [List.map_cons, nodupB, Bool.and_eq_true] at h
    simp only [List.map_cons, List.nodup_cons] at hn
    rcases List.mem_cons.1 h1 with rfl | h1'
    · rcases List.mem_cons.1 h2 with h2' | h2'
      · simpa using (congrArg Prod.fst h2').symm
      · exact absurd (List.mem_map.2 ⟨_, h2', rfl⟩) hn.1
    · rcases List.mem_cons.1 h2 with rfl | h2'
      · exact absurd (List.mem_map.2 ⟨_, h1', rfl⟩) hn.1
      · exact ih h.2 h1' h2' hn.2

/-- The names ds go; the tokens' names rn are renamed. -/
def AV.rn (ds : List Nat) (rn : List (Nat × Nat)) (x : AV) : AV :=
  x.re (fun id => ds.contains id || rn.any fun p => p.1 == id) (fun k => match lk k.1 rn with | some d' => some (d', k.2) | none => if ds.contains k.1 then none else some k)
def rnL (ds : List Nat) (rn : List (Nat × Nat)) (l : List AV) : List AV :=
  reL (fun id => ds.contains id || rn.any fun p => p.1 == id) (fun k => match lk k.1 rn with | some d' => some (d', k.2) | none => if ds.contains k.1 then none else some k) l
def ABlk.rn (ds : List Nat) (rn : List (Nat × Nat)) : ABlk → ABlk
  | .cells l => .cells (rnL ds rn l)
  | .iter s p => .iter s p

/-- What may stand for the same behind the renaming. -/
inductive SubN (ds : List Nat) (rn : List (Nat × Nat)) : AV → AV → Prop
  | b {x} : x.isBare = true → SubN ds rn x x
  | r {x y} : Sub (y.rn ds rn) x → SubN ds rn y x
theorem SubN.sub {ds rn x y} (h : SubN ds rn y x) : Sub (y.rn ds rn) x := by
  cases h with
  | b h => unfold AV.rn; rw [bare_of_isBare h]; exact .same
  | r h => exact h

def toE (ds : List Nat) (rn : List (Nat × Nat)) (e : Env) : Env → Prop
  | [] => True
  | (t, x) :: r => (∃ y, find t e = some y ∧ SubN ds rn y x) ∧ toE ds rn e r
def toH (ds : List Nat) (rn : List (Nat × Nat)) (h : Hp) : Hp → Prop
  | [] => True
  | (t, x) :: r => ((ds.contains t || rn.any fun p => p.1 == t) = false ∧ ∃ y, find t h = some y ∧ y.rn ds rn = x) ∧ toH ds rn h r
theorem toE.all {ds rn e} : ∀ {e'}, toE ds rn e e' → ∀ t x, find t e' = some x → ∃ y, find t e = some y ∧ Sub (y.rn ds rn) x
  | [], _, t, x, h => by simp [find] at h
  | (k, z) :: r, hb, t, x, h => by
    simp only [find] at h
    split at h
    · rename_i hk; subst hk; simp at h; subst h; obtain ⟨y, h1, h2⟩ := hb.1; exact ⟨y, h1, h2.sub⟩
    · exact toE.all hb.2 t x h
theorem toH.all {ds rn e} : ∀ {e'}, toH ds rn e e' → ∀ t x, find t e' = some x → (ds.contains t || rn.any fun p => p.1 == t) = false ∧ ∃ y, find t e = some y ∧ y.rn ds rn = x
  | [], _, t, x, h => by simp [find] at h
  | (k, z) :: r, hb, t, x, h => by
    simp only [find] at h
    split at h
    · rename_i hk; subst hk; simp at h; subst h; exact hb.1
    · exact toH.all hb.2 t x h

/-- The names are in order. -/
def namesOk (ds : List Nat) (rn : List (Nat × Nat)) (f f' : List Nat) : Bool :=
  nodupB (rn.map (·.1)) && nodupB (rn.map (·.2)) && rn.all (fun p => f.contains p.2 || ds.contains p.2) &&
    f'.all (fun d => !(rn.any fun p => p.2 == d) && (f.contains d || ds.contains d || rn.any fun p => p.1 == d))

/-- L' is what is left of L. -/
def LS.to (ds : List Nat) (rn : List (Nat × Nat)) (L' L : LS) : Prop := toE ds rn L.e L'.e ∧ toH ds rn L.h L'.h ∧ namesOk ds rn L.f L'.f = true

theorem Sim.to {N W0 m0 L L' a w m bl hh ds rn} (s : Sim N W0 m0 L a w m bl hh) (h : LS.to ds rn L' L) : ∃ bl' hh', Sim N W0 m0 L' a w m bl' hh' := by
  obtain ⟨he, hhp, hno⟩ := h
  simp only [namesOk, Bool.and_eq_true] at hno
  obtain ⟨⟨⟨n1, n2⟩, n3⟩, n4⟩ := hno
  let q : Nat → Bool := fun id => ds.contains id || rn.any fun p => p.1 == id
  let g : Tok → Option Tok := fun k => match lk k.1 rn with | some d' => some (d', k.2) | none => if ds.contains k.1 then none else some k
  let bl' : Names := fun id => if q id then none else bl id
  let hh' : Spare := fun k => match rlk k.1 rn with | some d => hh (d, k.2) | none => if q k.1 then none else hh k
  have src : ∀ d, (rn.any fun p => p.1 == d) = true ↔ ∃ d', (d, d') ∈ rn := by
    intro d
    rw [List.any_eq_true]
    constructor
    · rintro ⟨⟨a, b⟩, hp, hq⟩
      have : a = d := by simpa using hq
      subst this; exact ⟨b, hp⟩
    · rintro ⟨d', hp⟩; exact ⟨_, hp, by simp⟩
  have hb : ∀ id, q id = false → ∀ b, bl id = some b → bl' id = some b := by
    intro id h b hb
    simp only [bl', h]; simpa using hb
  have hk : ∀ k k', g k = some k' → ∀ s, hh k = some s → hh' k' = some s := by
    intro k k' e x hs
    simp only [g] at e
    cases hl : lk k.1 rn with
    | some d' =>
      rw [hl] at e; simp at e; subst e
      have hm := lk_some hl
      simp only [hh']
      cases hr : rlk d' rn with
      | some d => have := nodup_snd n2 (rlk_some hr) hm; subst this; exact hs
      | none => exact absurd rfl (rlk_none hr _ hm)
    | none =>
      rw [hl] at e
      simp only at e
      split at e
      · cases e
      · rename_i hc
        simp at e; subst e
        simp only [hh']
        cases hr : rlk k.1 rn with
        | some d =>
          have h3 := List.all_eq_true.1 n3 _ (rlk_some hr)
          simp only [Bool.or_eq_true] at h3
          rcases h3 with h3 | h3
          · have := (s.free k.1 (by simpa using h3)).2 k.2
            rw [show (k.1, k.2) = k from rfl, hs] at this; cases this
          · exact absurd h3 hc
        | none =>
          have : q k.1 = false := by
            simp only [q, Bool.or_eq_false_iff]
            refine ⟨by simpa using hc, ?_⟩
            rw [Bool.eq_false_iff]
            intro h
            obtain ⟨d', hd'⟩ := (src _).1 h
            exact lk_none hl _ hd' rfl
          simp only [this]; simpa using hs
  have org : ∀ k s, hh' k = some s → ∃ k0, hh k0 = some s ∧ ((k0.1, k.1) ∈ rn ∧ k0.2 = k.2 ∨ k0 = k ∧ q k.1 = false) := by
    intro k x e
    simp only [hh'] at e
    cases hr : rlk k.1 rn with
    | some d => rw [hr] at e; exact ⟨(d, k.2), e, .inl ⟨rlk_some hr, rfl⟩⟩
    | none =>
      rw [hr] at e
      simp only at e
      split at e
      · cases e
      · rename_i hq; exact ⟨k, e, .inr ⟨rfl, by simpa using hq⟩⟩
  refine ⟨bl', hh', s.defers, s.size, s.below, ⟨s.ws.imm, s.ws.le, s.ws.grow, ?_, ?_, ?_, ?_, ?_⟩, ?_, ?_⟩
  · intro id l e
    obtain ⟨hc, b', hf, hp⟩ := hhp.all id _ e
    cases b' with
    | iter => simp [ABlk.rn] at hp
    | cells l' =>
      simp only [ABlk.rn, ABlk.cells.injEq] at hp; subst hp
      obtain ⟨b, arr, T, h1, h2, h4, h5⟩ := s.ws.blk id l' hf
      exact ⟨b, arr, T, hb id hc b h1, h2, h4.re hb hk, h5⟩
  · intro id x p e
    obtain ⟨hc, b', hf, hp⟩ := hhp.all id _ e
    cases b' with
    | cells => simp [ABlk.rn] at hp
    | iter x' p' =>
      simp only [ABlk.rn, ABlk.iter.injEq] at hp
      obtain ⟨rfl, rfl⟩ := hp
      obtain ⟨b, h1, h2⟩ := s.ws.it id _ _ hf
      exact ⟨b, hb id hc b h1, h2⟩
  · intro id b e
    simp only [bl'] at e
    split at e
    · simp at e
    · exact s.ws.own id b e
  · intro id id' b e e'
    simp only [bl'] at e e'
    split at e
    · simp at e
    · split at e'
      · simp at e'
      · exact s.ws.inj id id' b e e'
  · intro k b f t e
    obtain ⟨k0, e0, c0⟩ := org k _ e
    obtain ⟨h1, h2, h3, h4, h5⟩ := s.ws.spare k0 b f t e0
    refine ⟨h1, h2, h3, fun id => ?_, fun k' s' e' hs => ?_⟩
    · simp only [bl']
      split
      · simp
      · exact h4 id
    · obtain ⟨k1, e1, c1⟩ := org k' _ e'
      have hkk := h5 k1 s' e1 hs
      subst hkk
      rcases c0 with ⟨c0, d0⟩ | ⟨c0, d0⟩
      · rcases c1 with ⟨c1, d1⟩ | ⟨c1, d1⟩
        · exact Prod.ext (nodup_fst n1 c1 c0) (d1.symm.trans d0)
        · subst c1
          have : q k1.1 = true := by simp only [q, Bool.or_eq_true]; exact .inr ((src _).2 ⟨_, c0⟩)
          rw [this] at d1; cases d1
      · subst c0
        rcases c1 with ⟨c1, d1⟩ | ⟨c1, d1⟩
        · have : q k1.1 = true := by simp only [q, Bool.or_eq_true]; exact .inr ((src _).2 ⟨_, c1⟩)
          rw [this] at d0; cases d0
        · exact c1.symm
  · intro t x e
    obtain ⟨y, hf, hsub⟩ := he.all t x e
    exact ((s.env t y hf).re hb hk).sub hsub
  · intro d hd
    have h4 := List.all_eq_true.1 n4 d hd
    simp only [Bool.and_eq_true, Bool.or_eq_true, Bool.not_eq_true'] at h4
    obtain ⟨h4, h5⟩ := h4
    have hr : rlk d rn = none := by
      cases hr : rlk d rn with
      | none => rfl
      | some d0 =>
        have := rlk_some hr
        have : (rn.any fun p => p.2 == d) = true := List.any_eq_true.2 ⟨_, this, by simp⟩
        rw [this] at h4; cases h4
    by_cases hq : q d = true
    · exact ⟨by simp only [bl']; rw [hq]; simp, fun j => by simp only [hh', hr]; rw [hq]; simp⟩
    · have hq' : q d = false := Bool.eq_false_iff.2 hq
      have : d ∈ L.f := by
        rcases h5 with (h5 | h5) | h5
        · simpa using h5
        · exact absurd (show q d = true by simp only [q, h5, Bool.true_or]) hq
        · exact absurd (show q d = true by simp only [q, h5, Bool.or_true]) hq
      have hfr := s.free d this
      exact ⟨by simp only [bl']; rw [hq']; simpa using hfr.1, fun j => by simp only [hh', hr]; rw [hq']; simpa using hfr.2 j⟩

/-- Ways that meet again. -/
theorem Wp.join {P N c rest Q L} {S : Type} (st : S → LS) (J : S → Prop) (hr : ∀ x, J x → Wp P N rest Q (st x))
    (hc : Wp P N c (AExit.then (fun L' => ∃ x ds rn, J x ∧ LS.to ds rn (st x) L') Q) L) : Wp P N (.seq c rest) Q L := by
  refine Wp.seq (hc.mono ?_)
  intro e L' q
  cases e with
  | normal =>
    obtain ⟨x, ds, rn, hj, hto⟩ := q
    intro W0 m0 m bl hh a w s Qc hc
    obtain ⟨bl', hh', s'⟩ := s.to hto
    exact hr x hj _ _ _ _ _ _ _ s' Qc hc
  | exit id => exact q
  | ret => exact q

/-- A loop whose rounds are counted down. -/
theorem Wp.loopS {P N c Q L} {S : Type} (st : S → LS) (J : Nat → S → Prop) (n0 : Nat) (x0 : S) (ds rn) (h0 : J n0 x0) (hl : LS.to ds rn (st x0) L)
    (round : ∀ n x, J n x → Wp P N c (AExit.then (fun L' => ∃ n' x' ds rn, n' < n ∧ J n' x' ∧ LS.to ds rn (st x') L') Q) (st x)) : Wp P N (.loop c) Q L := by
  intro W0 m0 m bl hh ac w s Qc hc
  obtain ⟨bl0, hh0, s0⟩ := s.to hl
  refine wp_loop_ghost (fun n a w => ∃ x m bl hh, J n x ∧ Sim N W0 m0 (st x) a w m bl hh) n0 ⟨x0, m, bl0, hh0, h0, s0⟩ ?_
  rintro n a w ⟨x, m, bl, hh, hi, sx⟩
  refine round n x hi _ _ _ _ _ _ _ sx _ ?_
  intro e L' a' w' m' bl' hh' q s'
  cases e with
  | normal =>
    obtain ⟨n', x', ds, rn, hlt, hi', hb⟩ := q
    obtain ⟨bl2, hh2, s2⟩ := s'.to hb
    exact ⟨n', hlt, x', m', bl2, hh2, hi', s2⟩
  | exit id => exact hc _ _ _ _ _ _ _ q s'
  | ret => exact hc _ _ _ _ _ _ _ q s'

/-- A state put anew. -/
theorem Wp.re {P N c Q L L'} (ds rn) (h : Wp P N c Q L') (hl : LS.to ds rn L' L) : Wp P N c Q L := by
  intro W0 m0 m bl hh a w s Qc hc
  obtain ⟨bl', hh', s'⟩ := s.to hl
  exact h _ _ _ _ _ _ _ s' Qc hc

/-! the plain form of a function -/

def Let {β X : Type} (v : β) (k : β → X) : X := k v
def Bind {α β : Type} (m : Option α) (k : α → Option β) : Option β := m.bind k
def Chk {α : Type} (c : Prop) [Decidable c] (k : Option α) : Option α := if c then k else none
/-- More rounds than any loop takes. -/
def fuel : Nat := 2 ^ 70

theorem let_e {β X : Type} {v : β} {k : β → X} {r : X} {C : Prop} (h : Let v k = r) (c : ∀ x, v = x → k x = r → C) : C := c v rfl h
theorem bind_e {α β : Type} {m : Option α} {k : α → Option β} {r : β} {C : Prop} (h : Bind m k = some r) (c : ∀ x, m = some x → k x = some r → C) : C := by
  unfold Bind at h
  cases m with
  | none => simp at h
  | some x => exact c x rfl h
theorem chk_e {α : Type} {p : Prop} [Decidable p] {k : Option α} {r : α} {C : Prop} (h : Chk p k = some r) (c : p → k = some r → C) : C := by
  unfold Chk at h
  split at h
  · exact c ‹_› h
  · cases h
theorem none_e {α : Type} {r : α} {C : Prop} (h : (none : Option α) = some r) : C := by cases h

theorem Wp.condS {P N s x y Q e h f} {X : Type} {A B r : X} {t : Bool} (hi : (if t = true then A else B) = r) (hs : find s e = some (.v (.bool t)))
    (ht : A = r → Wp P N x Q ⟨e, h, f⟩) (hf : B = r → Wp P N y Q ⟨e, h, f⟩) : Wp P N (.cond (.tmp s) x y) Q ⟨e, h, f⟩ :=
  Wp.cond hs (fun h => ht (by rw [if_pos h] at hi; exact hi)) (fun h => hf (by rw [if_neg (by simp [h])] at hi; exact hi))
theorem Wp.condcT {P N x y Q L} (ht : Wp P N x Q L) : Wp P N (.cond (.const (.bool true)) x y) Q L := Wp.condc (fun _ => ht) (fun h => by cases h)
theorem Wp.condcF {P N x y Q L} (ht : Wp P N y Q L) : Wp P N (.cond (.const (.bool false)) x y) Q L := Wp.condc (fun h => by cases h) (fun _ => ht)
end Go.Cx
