/-
  Code, functions: the rules by which a piece of code is walked over abstract states. No conditions.
-/
import Derived.Test.YtblkmlpjhpgkjaaCxB
import Derived.Deep.LoopGhost
set_option linter.all false
namespace Go.Cx
open Go.RowKit

inductive AExit where
  | normal
  | exit (id : Nat)
  | ret

def AExit.to : AExit → Exit
  | .normal => .normal
  | .exit id => .exit id
  | .ret => .ret

/-- Code, from the abstract state L, ends in one that Q holds of. -/
def Wp (P : Program) (N : Nat) (c : Code) (Q : AExit → LS → Prop) (L : LS) : Prop :=
  ∀ W0 m0 m bl hh a w, Sim N W0 m0 L a w m bl hh → ∀ Qc : Exit → Act → World → Prop,
    (∀ e L' a' w' m' bl' hh', Q e L' → Sim N W0 m0 L' a' w' m' bl' hh' → Qc e.to a' w') → c.wp P Qc a w

/-- L' says no more than L. -/
structure LS.le (L' L : LS) : Prop where
  e : ∀ t x, find t L'.e = some x → find t L.e = some x
  h : ∀ t x, find t L'.h = some x → find t L.h = some x
  f : ∀ d ∈ L'.f, d ∈ L.f

theorem Sim.weaken {N W0 m0 L L' a w m bl hh} (s : Sim N W0 m0 L a w m bl hh) (h : LS.le L' L) : Sim N W0 m0 L' a w m bl hh :=
  ⟨s.defers, s.size, s.below, ⟨s.ws.imm, s.ws.le, s.ws.grow, fun id l e => s.ws.blk id l (h.h _ _ e), fun id x p e => s.ws.it id x p (h.h _ _ e), s.ws.own, s.ws.inj, s.ws.spare⟩, fun t x e => s.env t x (h.e _ _ e), fun d hd => s.free d (h.f d hd)⟩

theorem Wp.mono {P N c Q Q' L} (h : Wp P N c Q L) (hq : ∀ e L, Q e L → Q' e L) : Wp P N c Q' L :=
  fun _ _ _ _ _ _ _ s Qc hc => h _ _ _ _ _ _ _ s Qc fun e L' a' w' m' bl' hh' q => hc e L' a' w' m' bl' hh' (hq e L' q)

theorem Wp.weaken {P N c Q L L'} (h : Wp P N c Q L') (hl : LS.le L' L) : Wp P N c Q L := fun _ _ _ _ _ _ _ s Qc hc => h _ _ _ _ _ _ _ (s.weaken hl) Qc hc

theorem Wp.skip {P N Q L} (h : Q .normal L) : Wp P N .skip Q L := fun _ _ _ _ _ _ _ s _ hc => wp_skip (hc _ _ _ _ _ _ _ h s)
theorem Wp.ret {P N Q L} (h : Q .ret L) : Wp P N .ret Q L := fun _ _ _ _ _ _ _ s _ hc => wp_ret (hc .ret _ _ _ _ _ _ h s)
theorem Wp.exit {P N Q L id} (h : Q (.exit id) L) : Wp P N (.exit id) Q L := fun _ _ _ _ _ _ _ s _ hc => wp_exit (hc (.exit id) _ _ _ _ _ _ h s)

def AExit.then (next : LS → Prop) (Q : AExit → LS → Prop) : AExit → LS → Prop
  | .normal, L => next L
  | e, L => Q e L

theorem Wp.seq {P N a b Q L} (h : Wp P N a (AExit.then (Wp P N b Q) Q) L) : Wp P N (.seq a b) Q L := by
  intro W0 m0 m bl hh ac w s Qc hc
  refine wp_seq (h _ _ _ _ _ _ _ s _ ?_)
  intro e L' a' w' m' bl' hh' q s'
  cases e with
  | normal => exact q _ _ _ _ _ _ _ s' Qc hc
  | exit id => exact hc _ _ _ _ _ _ _ q s'
  | ret => exact hc _ _ _ _ _ _ _ q s'

theorem Wp.cond {P N s x y Q L t} (hs : find s L.e = some (.v (.bool t))) (ht : t = true → Wp P N x Q L) (hf : t = false → Wp P N y Q L) : Wp P N (.cond (.tmp s) x y) Q L := by
  intro W0 m0 m bl hh a w S Qc hc
  have hv : a.eval (.tmp s) = .bool t := (S.env s _ hs).eq_v
  exact wp_cond_split hv (fun h => ht h _ _ _ _ _ _ _ S Qc hc) (fun h => hf h _ _ _ _ _ _ _ S Qc hc)

theorem Wp.condc {P N x y Q L t} (ht : t = true → Wp P N x Q L) (hf : t = false → Wp P N y Q L) : Wp P N (.cond (.const (.bool t)) x y) Q L := by
  intro W0 m0 m bl hh a w S Qc hc
  exact wp_cond_split (c := .const (.bool t)) (a := a) rfl (fun h => ht h _ _ _ _ _ _ _ S Qc hc) (fun h => hf h _ _ _ _ _ _ _ S Qc hc)

def AExit.inBlock (id : Nat) (Q : AExit → LS → Prop) : AExit → LS → Prop
  | .exit id', L => if id' = id then Q .normal L else Q (.exit id') L
  | e, L => Q e L

theorem Wp.block {P N id c Q L} (h : Wp P N c (AExit.inBlock id Q) L) : Wp P N (.block id c) Q L := by
  intro W0 m0 m bl hh ac w s Qc hc
  refine wp_block (h _ _ _ _ _ _ _ s _ ?_)
  intro e L' a' w' m' bl' hh' q s'
  cases e with
  | normal => exact hc _ _ _ _ _ _ _ q s'
  | exit id' =>
    simp only [AExit.inBlock] at q
    simp only [AExit.to, Exit.inBlock]
    split at q
    · rename_i h; simp only [h, if_true]; exact hc .normal _ _ _ _ _ _ q s'
    · rename_i h; simp only [h, if_false]; exact hc (.exit id') _ _ _ _ _ _ q s'
  | ret => exact hc _ _ _ _ _ _ _ q s'

def ABlk.purge (ds : List Nat) : ABlk → ABlk
  | .cells l => .cells (purgeL ds l)
  | .iter s p => .iter s p

/-- What may stand for the same. -/
inductive Sub : AV → AV → Prop
  | same {x} : Sub x x
  | drop {k sz l} : Sub (.sl k sz l) (.sl none sz l)
  | undef {x} : Sub x .undef
theorem Rep.sub {m bl hh x y v} (h : Rep m bl hh x v) (hs : Sub x y) : Rep m bl hh y v := by
  cases hs with
  | same => exact h
  | drop =>
    cases h with
    | slnil => exact .slnil
    | sl h1 h2 h3 h4 h5 h6 h7 => exact .sl h1 h2 h3 h4 h5 h6 (by simp)
  | undef => exact .undef

/-- The state L' is what is left of L behind a round: the names ds are free again. -/
structure LS.back (ds : List Nat) (L' L : LS) : Prop where
  e : ∀ t x, find t L'.e = some x → ∃ y, find t L.e = some y ∧ Sub (y.purge ds) x
  h : ∀ id b, find id L'.h = some b → ds.contains id = false ∧ ∃ b', find id L.h = some b' ∧ b'.purge ds = b
  f : ∀ d ∈ L'.f, d ∈ L.f ∨ d ∈ ds

def backE (ds : List Nat) (e : Env) : Env → Prop
  | [] => True
  | (t, x) :: r => (∃ y, find t e = some y ∧ Sub (y.purge ds) x) ∧ backE ds e r
def backH (ds : List Nat) (h : Hp) : Hp → Prop
  | [] => True
  | (t, x) :: r => (ds.contains t = false ∧ ∃ y, find t h = some y ∧ y.purge ds = x) ∧ backH ds h r
theorem backE.all {ds e} : ∀ {e'}, backE ds e e' → ∀ t x, find t e' = some x → ∃ y, find t e = some y ∧ Sub (y.purge ds) x
  | [], _, t, x, h => by simp [find] at h
  | (k, z) :: r, hb, t, x, h => by
    simp only [find] at h
    split at h
    · rename_i hk; subst hk; simp at h; subst h; exact hb.1
    · exact backE.all hb.2 t x h
theorem backH.all {ds e} : ∀ {e'}, backH ds e e' → ∀ t x, find t e' = some x → ds.contains t = false ∧ ∃ y, find t e = some y ∧ y.purge ds = x
  | [], _, t, x, h => by simp [find] at h
  | (k, z) :: r, hb, t, x, h => by
    simp only [find] at h
    split at h
    · rename_i hk; subst hk; simp at h; subst h; exact hb.1
    · exact backH.all hb.2 t x h
theorem LS.back.mk' {ds e h f e' h' f'} (he : backE ds e e') (hh : backH ds h h') (hf : f'.all (fun d => f.contains d || ds.contains d) = true) : LS.back ds ⟨e', h', f'⟩ ⟨e, h, f⟩ :=
  ⟨he.all, hh.all, fun d hd => by have := List.all_eq_true.1 hf d hd; simpa using this⟩

def purgeN (ds : List Nat) (bl : Names) : Names := fun id => if ds.contains id then none else bl id
def purgeS (ds : List Nat) (hh : Spare) : Spare := fun k => if ds.contains k.1 then none else hh k

theorem Sim.back' {N W0 m0 L L' a w m bl hh ds} (s : Sim N W0 m0 L a w m bl hh) (h : LS.back ds L' L) : Sim N W0 m0 L' a w m (purgeN ds bl) (purgeS ds hh) := by
  have hb : ∀ id, ds.contains id = false → ∀ b, bl id = some b → (fun id => if ds.contains id then none else bl id : Names) id = some b := fun id h b hb => by simp only [h]; simpa using hb
  have hk : ∀ k k', (fun k : Tok => if ds.contains k.1 then none else some k) k = some k' → ∀ s, hh k = some s → (fun k : Tok => if ds.contains k.1 then none else hh k : Spare) k' = some s := by
    intro k k' e s hs
    simp only at e
    split at e
    · simp at e
    · rename_i hc; simp at e; subst e; simp only [hc]; simpa using hs
  show Sim N W0 m0 L' a w m (fun id => if ds.contains id then none else bl id) (fun k => if ds.contains k.1 then none else hh k)
  refine ⟨s.defers, s.size, s.below, ⟨s.ws.imm, s.ws.le, s.ws.grow, ?_, ?_, ?_, ?_, ?_⟩, ?_, ?_⟩
  · intro id l e
    obtain ⟨hc, b', hf, hp⟩ := h.h id _ e
    cases b' with
    | iter => simp [ABlk.purge] at hp
    | cells l' =>
      simp only [ABlk.purge, ABlk.cells.injEq] at hp; subst hp
      obtain ⟨b, arr, T, h1, h2, h4, h5⟩ := s.ws.blk id l' hf
      exact ⟨b, arr, T, by simp only [hc]; simpa using h1, h2, h4.re hb hk, h5⟩
  · intro id x p e
    obtain ⟨hc, b', hf, hp⟩ := h.h id _ e
    cases b' with
    | cells => simp [ABlk.purge] at hp
    | iter x' p' =>
      simp only [ABlk.purge, ABlk.iter.injEq] at hp
      obtain ⟨rfl, rfl⟩ := hp
      obtain ⟨b, h1, h2⟩ := s.ws.it id _ _ hf
      exact ⟨b, by simp only [hc]; simpa using h1, h2⟩
  · intro id b e
    split at e
    · simp at e
    · exact s.ws.own id b e
  · intro id id' b e e'
    split at e
    · simp at e
    · split at e'
      · simp at e'
      · exact s.ws.inj id id' b e e'
  · intro k b f t e
    split at e
    · simp at e
    · obtain ⟨h1, h2, h3, h4, h5⟩ := s.ws.spare k b f t e
      refine ⟨h1, h2, h3, fun id => ?_, fun k' s' e' hs => ?_⟩
      · split
        · simp
        · exact h4 id
      · split at e'
        · simp at e'
        · exact h5 k' s' e' hs
  · intro t x e
    obtain ⟨y, hf, hsub⟩ := h.e t x e
    exact ((s.env t y hf).re hb hk).sub hsub
  · intro d hd
    simp only
    by_cases hc : ds.contains d = true
    · exact ⟨by rw [if_pos hc], fun j => by rw [if_pos hc]⟩
    · rcases h.f d hd with h' | h'
      · exact ⟨by rw [if_neg hc]; exact (s.free d h').1, fun j => by rw [if_neg hc]; exact (s.free d h').2 j⟩
      · exact absurd (by simpa using h') hc

theorem Sim.back {N W0 m0 L L' a w m bl hh ds} (s : Sim N W0 m0 L a w m bl hh) (h : LS.back ds L' L) : ∃ bl' hh', Sim N W0 m0 L' a w m bl' hh' := ⟨_, _, s.back' h⟩

/-- A loop: st x is the state at a round's head; ds are the names that a round makes. -/
theorem Wp.loop {P N c Q L} {S : Type} (st : S → LS) (inv : S → Prop) (μ : S → Nat) (ds : List Nat) (x0 : S) (h0 : inv x0) (hl : LS.back ds (st x0) L)
    (round : ∀ x, inv x → Wp P N c (AExit.then (fun L' => ∃ x', inv x' ∧ μ x' < μ x ∧ LS.back ds (st x') L') Q) (st x)) : Wp P N (.loop c) Q L := by
  intro W0 m0 m bl hh ac w s Qc hc
  obtain ⟨bl0, hh0, s0⟩ := s.back hl
  refine wp_loop_ghost (fun n a w => ∃ x m bl hh, n = μ x ∧ inv x ∧ Sim N W0 m0 (st x) a w m bl hh) (μ x0) ⟨x0, m, bl0, hh0, rfl, h0, s0⟩ ?_
  rintro n a w ⟨x, m, bl, hh, rfl, hi, sx⟩
  refine round x hi _ _ _ _ _ _ _ sx _ ?_
  intro e L' a' w' m' bl' hh' q s'
  cases e with
  | normal =>
    obtain ⟨x', hi', hlt, hb⟩ := q
    obtain ⟨bl2, hh2, s2⟩ := s'.back hb
    exact ⟨μ x', hlt, x', m', bl2, hh2, rfl, hi', s2⟩
  | exit id => exact hc _ _ _ _ _ _ _ q s'
  | ret => exact hc _ _ _ _ _ _ _ q s'

theorem Wp.region {P N id ops Q L} (h : GoT P ops N ops.toList (Q .normal) L) : Wp P N (.region id ops false) Q L := by
  intro W0 m0 m bl hh ac w s Qc hc
  exact wp_region_list (h _ _ _ _ _ _ _ s Qc fun L' a' w' m' bl' hh' q s' => hc .normal _ _ _ _ _ _ q s')

def envFrom (i : Nat) : List AV → Env
  | [] => []
  | x :: l => (i, x) :: envFrom (i + 1) l

theorem find_envFrom : ∀ (l : List AV) (i t : Nat) (x : AV), find t (envFrom i l) = some x → i ≤ t ∧ l[t - i]? = some x
  | [], _, _, _, h => by simp [envFrom, find] at h
  | y :: l, i, t, x, h => by
    simp only [envFrom, find] at h
    split at h
    · rename_i hk; subst hk; simp at h; subst h; simp
    · rename_i hk
      obtain ⟨h1, h2⟩ := find_envFrom l (i + 1) t x h
      refine ⟨by omega, ?_⟩
      have : t - i = (t - (i + 1)) + 1 := by omega
      rw [this]; simpa using h2

/-- One result of a function. -/
inductive ResOk (P : Program) (L : LS) : ResultVar → AV → Prop
  | tmp {t x} : find t L.e = some x → ResOk P L (.tmp t) x
  | agg {t ty id l} : find t L.e = some (.ptr id 0) → find id L.h = some (.cells l) → tAg P ty = some true → tSz P ty = some l.length → ResOk P L (.cell t ty) (.agg l)
  | one {t ty id x} : find t L.e = some (.ptr id 0) → find id L.h = some (.cells [x]) → tAg P ty = some false → ResOk P L (.cell t ty) x

inductive RessOk (P : Program) (L : LS) : List ResultVar → List AV → Prop
  | nil : RessOk P L [] []
  | cons {r rs x xs} : ResOk P L r x → RessOk P L rs xs → RessOk P L (r :: rs) (x :: xs)

def tupleOf : List AV → AV
  | [x] => x
  | l => .tup l


theorem cell_of_blk {w : World} {b j : Nat} {arr : Array Value} {T fr} (h : w.heap[b]? = some (.cells arr T fr)) : w.cell? ⟨b, j, none⟩ = arr[j]? := by
  simp [World.cell?, h]

def resOf (tmps : Array Value) (r : ResultVar) : Sem Value :=
  match r with
  | .tmp t => Pure.pure (tmps.getD t undef)
  | .cell a t => do loadVar t (← asAddr (tmps.getD a undef))

theorem results_eq (fn : Func) (tmps : Array Value) : results fn tmps = (do
    let vs ← fn.results.mapM (resOf tmps)
    Pure.pure (if h : vs.size = 1 then vs[0] else .tuple vs) : Sem Value) := rfl

theorem ResOk.run {P N W0 m0 L a w m bl hh r x} (h : ResOk P L r x) (s : Sim N W0 m0 L a w m bl hh) :
    ∃ v, (resOf a.tmps r).run P w = .ok v w ∧ Rep m bl hh x v := by
  unfold resOf
  cases h with
  | tmp h => exact ⟨_, rfl, s.env _ _ h⟩
  | agg h1 h2 h3 h4 =>
    rename_i t ty id l
    have hp := s.env _ _ h1
    obtain ⟨b, arr, T, hb, hh1, hr, h1c⟩ := s.ws.blk _ _ h2
    generalize hv : a.tmps.getD t undef = v at hp
    cases hp with
    | ptr hb' =>
      rw [hb] at hb'; cases hb'
      refine ⟨.agg arr.toList.toArray, ?_, .agg hr h1c⟩
      have := run_loadVar_agg (P := P) (ty := ty) (cs := arr.toList) (w := w) (b := b) (o := 0) h3 (by rw [h4, hr.length]) (fun j v e => by rw [cell_of_blk hh1, Nat.zero_add]; simpa using e)
      simp only [hv]
      simp [asAddr, this]
  | one h1 h2 h3 =>
    rename_i t ty id
    have hp := s.env _ _ h1
    obtain ⟨b, arr, T, hb, hh1, hr, h1c⟩ := s.ws.blk _ _ h2
    generalize hv : a.tmps.getD t undef = v at hp
    cases hp with
    | ptr hb' =>
      rw [hb] at hb'; cases hb'
      obtain ⟨v, hv1, hv2⟩ := hr.get 0 x rfl
      refine ⟨v, ?_, hv2⟩
      have hc : w.cell? ⟨b, 0, none⟩ = some v := by rw [cell_of_blk hh1]; simpa using hv1
      simp only [hv]
      simp [asAddr, run_loadVar_one h3 hc]

theorem RessOk.run {P N W0 m0 L a w m bl hh} (s : Sim N W0 m0 L a w m bl hh) : ∀ {rs xs}, RessOk P L rs xs →
    ∃ vs, (rs.mapM (resOf a.tmps)).run P w = .ok vs w ∧ Reps m bl hh xs vs
  | _, _, .nil => ⟨[], by simp, .nil⟩
  | _, _, .cons h t => by
    obtain ⟨v, h1, h2⟩ := h.run s
    obtain ⟨vs, h3, h4⟩ := RessOk.run s t
    exact ⟨v :: vs, by rw [List.mapM_cons]; simp [h1, h3], .cons h2 h4⟩

theorem RessOk.results {P N W0 m0 L a w m bl hh fn xs} (s : Sim N W0 m0 L a w m bl hh) (h : RessOk P L fn.results.toList xs) :
    ∃ v, (results fn a.tmps).run P w = .ok v w ∧ Rep m bl hh (tupleOf xs) v := by
  obtain ⟨vs, h1, h2⟩ := RessOk.run s h
  refine ⟨if h : vs.toArray.size = 1 then vs.toArray[0] else .tuple vs.toArray, ?_, ?_⟩
  · rw [results_eq, Sem.run_bind, Array.mapM_eq_mapM_toList]
    simp [h1]
  · cases h2 with
    | nil => simp [tupleOf]; exact .tup .nil
    | cons hx ht =>
      cases ht with
      | nil => simpa [tupleOf] using hx
      | cons hy ht => simpa [tupleOf] using Rep.tup (.cons hx (.cons hy ht))

/-- A function's contract from its body. ks: the tokens that go out with the result. -/
theorem FnR.intro {P f fn c args r N} (hf : P.funcs[f]? = some fn) (hb : fn.body = some c) (hN : fn.ntmps = N) (hn : args.length ≤ N) (names : List Nat)
    (h : Wp P N c (fun e L => (e = .normal ∨ e = .ret) ∧ ∃ xs, ∃ ks : List Tok, ks.Nodup ∧ RessOk P L fn.results.toList xs ∧ (tupleOf xs).expo ks = r) ⟨envFrom 0 args, [], names⟩) : FnR P f args r := by
  intro w m vs hi hr
  refine calls_of_wp hf hb ?_
  have hlen := hr.length
  have s0 : Sim N w m ⟨envFrom 0 args, [], names⟩ { tmps := vs.toArray ++ Array.replicate (fn.ntmps - vs.toArray.size) undef, defers := [] } w m noNames noSpare := by
    refine ⟨rfl, by simp; omega, Below.refl _ _, ⟨hi, Mem.le.refl m, fun _ _ _ h => .inl h, by simp [find], by simp [find], by simp [noNames], by simp [noNames], by simp [noSpare]⟩, ?_, ?_⟩
    · intro t x e
      obtain ⟨-, h2⟩ := find_envFrom args 0 t x e
      obtain ⟨v, hv1, hv2⟩ := hr.get t x (by simpa using h2)
      rw [Array.getD_eq_getD_getElem?]
      have hlt : t < vs.length := by
        rcases Nat.lt_or_ge t vs.length with h | h
        · exact h
        · simp [List.getElem?_eq_none h] at hv1
      rw [Array.getElem?_append_left (by simpa using hlt)]
      simpa [hv1] using hv2
    · intro d _; exact ⟨rfl, fun _ => rfl⟩
  refine h w m m noNames noSpare _ w s0 _ ?_
  rintro e L' a' w' m' bl' hh' ⟨he, xs, ks, hks, hxs, hre⟩ s'
  obtain ⟨v, hv1, hv2⟩ := RessOk.results s' hxs
  have hb : bodyPost P fn (fun e w' => ∃ v m' hh', e = .returned v ∧ Below w.heap.size w w' ∧ WSim w.heap.size m [] m' noNames hh' w' ∧
      (∀ k s, hh' k = some s → k.1 = 0) ∧ Rep m' noNames hh' r v) .normal a' w' := by
    refine ⟨s'.defers, v, hv1, v, m', fun k => if k.1 = 0 then (ks[k.2]?).bind hh' else none, rfl, s'.below, ⟨s'.ws.imm, s'.ws.le, s'.ws.grow, by simp [find], by simp [find], by simp [noNames], by simp [noNames], ?_⟩, ?_, ?_⟩
    · intro k b f t e
      split at e
      · rename_i hk0
        obtain ⟨k', hk', hs⟩ := Option.bind_eq_some_iff.1 e
        obtain ⟨h1, h2, h3, h4, h5⟩ := s'.ws.spare k' b f t hs
        refine ⟨h1, h2, h3, by simp [noNames], ?_⟩
        intro q s2 e2 hs2
        split at e2
        · rename_i hq0
          obtain ⟨q', hq', hsq⟩ := Option.bind_eq_some_iff.1 e2
          have hqq := h5 q' s2 hsq hs2
          subst hqq
          have hlt : k.2 < ks.length := by
            rcases Nat.lt_or_ge k.2 ks.length with h | h
            · exact h
            · simp [List.getElem?_eq_none h] at hk'
          have hlt2 : q.2 < ks.length := by
            rcases Nat.lt_or_ge q.2 ks.length with h | h
            · exact h
            · simp [List.getElem?_eq_none h] at hq'
          have : q.2 = k.2 := by
            have e1 : ks[q.2] = ks[k.2] := by
              rw [List.getElem?_eq_getElem hlt] at hk'
              rw [List.getElem?_eq_getElem hlt2] at hq'
              simp at hk' hq'
              rw [hk', hq']
            rcases Nat.lt_trichotomy q.2 k.2 with h | h | h
            · exact absurd e1 (List.pairwise_iff_getElem.1 hks _ _ _ _ h)
            · exact h
            · exact absurd e1.symm (List.pairwise_iff_getElem.1 hks _ _ _ _ h)
          exact Prod.ext (by omega) this
        · simp at e2
      · simp at e
    · intro k s e
      by_cases hk : k.1 = 0
      · exact hk
      · simp [hk] at e
    · rw [← hre]
      refine hv2.re (by simp) ?_
      intro k k' e s hs
      obtain ⟨j, hj, rfl⟩ := Option.map_eq_some_iff.1 e
      simp only [if_true]
      simp [idxTok_get hj, hs]
  rcases he with rfl | rfl <;> exact hb

end Go.Cx
