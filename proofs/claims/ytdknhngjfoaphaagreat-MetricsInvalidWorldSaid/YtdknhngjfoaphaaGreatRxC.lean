/-
  Code: what a piece of it does to the abstract state; a function's contract from its body. No conditions.
-/
import Derived.Test.YtdknhngjfoaphaaGreatRxB
import Derived.Deep.LoopGhost
set_option linter.all false
namespace Go.Rx
open Go.RowKit

inductive AExit where
  | normal
  | exit (id : Nat)
  | ret
def AExit.to : AExit → Exit
  | .normal => .normal
  | .exit id => .exit id
  | .ret => .ret

/-- Code, from the abstract state L, ends in one that Q holds of. -/
def Wp (P : Program) (N : Nat) (c : Code) (Q : AExit → LS → Prop) (L : LS) : Prop :=
  ∀ W0 m0 sa m bl a w, Sim N W0 m0 L sa a w m bl → ∀ Qc : Exit → Act → World → Prop,
    (∀ e L' a' w' m' bl', Q e L' → Sim N W0 m0 L' sa a' w' m' bl' → Qc e.to a' w') → c.wp P Qc a w

theorem Wp.mono {P N c Q Q' L} (h : Wp P N c Q L) (hq : ∀ e L, Q e L → Q' e L) : Wp P N c Q' L :=
  fun _ _ _ _ _ _ _ s Qc hc => h _ _ _ _ _ _ _ s Qc fun e L' a' w' m' bl' q => hc e L' a' w' m' bl' (hq e L' q)
theorem Wp.tells {P N c Q L L'} (t : Tells L L') (h : Wp P N c Q L') : Wp P N c Q L := fun _ _ _ _ _ _ _ s Qc hc => let ⟨_, _, s'⟩ := t _ _ _ _ _ _ _ _ s; h _ _ _ _ _ _ _ s' Qc hc
theorem Wp.skip {P N Q L} (h : Q .normal L) : Wp P N .skip Q L := fun _ _ _ _ _ _ _ s _ hc => wp_skip (hc _ _ _ _ _ _ h s)
theorem Wp.ret {P N Q L} (h : Q .ret L) : Wp P N .ret Q L := fun _ _ _ _ _ _ _ s _ hc => wp_ret (hc .ret _ _ _ _ _ h s)
theorem Wp.exit {P N Q L id} (h : Q (.exit id) L) : Wp P N (.exit id) Q L := fun _ _ _ _ _ _ _ s _ hc => wp_exit (hc (.exit id) _ _ _ _ _ h s)

def AExit.then (next : LS → Prop) (Q : AExit → LS → Prop) : AExit → LS → Prop
  | .normal, L => next L
  | e, L => Q e L
theorem Wp.seq {P N a b Q L} (h : Wp P N a (AExit.then (Wp P N b Q) Q) L) : Wp P N (.seq a b) Q L := by
  intro W0 m0 sa m bl ac w s Qc hc
  refine wp_seq (h _ _ _ _ _ _ _ s _ ?_)
  intro e L' a' w' m' bl' q s'
  cases e with
  | normal => exact q _ _ _ _ _ _ _ s' Qc hc
  | exit id => exact hc _ _ _ _ _ _ q s'
  | ret => exact hc _ _ _ _ _ _ q s'
theorem Wp.cond {P N c x y Q L t} (hs : OpdOk L.e c (.v (.bool t))) (ht : t = true → Wp P N x Q L) (hf : t = false → Wp P N y Q L) : Wp P N (.cond c x y) Q L := by
  intro W0 m0 sa m bl a w S Qc hc
  have hv : a.eval c = .bool t := (hs m bl a fun s _ z hz => S.env s z hz).eq_v
  exact wp_cond_split hv (fun h => ht h _ _ _ _ _ _ _ S Qc hc) (fun h => hf h _ _ _ _ _ _ _ S Qc hc)
def AExit.inBlock (id : Nat) (Q : AExit → LS → Prop) : AExit → LS → Prop
  | .exit id', L => if id' = id then Q .normal L else Q (.exit id') L
  | e, L => Q e L
theorem Wp.block {P N id c Q L} (h : Wp P N c (AExit.inBlock id Q) L) : Wp P N (.block id c) Q L := by
  intro W0 m0 sa m bl ac w s Qc hc
  refine wp_block (h _ _ _ _ _ _ _ s _ ?_)
  intro e L' a' w' m' bl' q s'
  cases e with
  | normal => exact hc _ _ _ _ _ _ q s'
  | exit id' =>
    simp only [AExit.inBlock] at q
    simp only [AExit.to, Exit.inBlock]
    split at q
    · rename_i h; simp only [h, if_true]; exact hc .normal _ _ _ _ _ q s'
    · rename_i h; simp only [h, if_false]; exact hc (.exit id') _ _ _ _ _ q s'
  | ret => exact hc _ _ _ _ _ _ q s'

/-- A loop whose rounds are counted down. -/
theorem Wp.loopS {P N c Q L} {S : Type} (st : S → LS) (J : Nat → S → Prop) (n0 : Nat) (x0 : S) (h0 : J n0 x0) (hl : Tells L (st x0))
    (round : ∀ n x, J n x → Wp P N c (AExit.then (fun L' => ∃ n' x', n' < n ∧ J n' x' ∧ Tells L' (st x')) Q) (st x)) : Wp P N (.loop c) Q L := by
  intro W0 m0 sa m bl ac w s Qc hc
  obtain ⟨m1, bl0, s0⟩ := hl _ _ _ _ _ _ _ _ s
  refine wp_loop_ghost (fun n a w => ∃ x m bl, J n x ∧ Sim N W0 m0 (st x) sa a w m bl) n0 ⟨x0, m1, bl0, h0, s0⟩ ?_
  rintro n a w ⟨x, m, bl, hi, sx⟩
  refine round n x hi _ _ _ _ _ _ _ sx _ ?_
  intro e L' a' w' m' bl' q s'
  cases e with
  | normal =>
    obtain ⟨n', x', hlt, hi', hb⟩ := q
    obtain ⟨m2, bl2, s2⟩ := hb _ _ _ _ _ _ _ _ s'
    exact ⟨n', hlt, x', m2, bl2, hi', s2⟩
  | exit id => exact hc _ _ _ _ _ _ q s'
  | ret => exact hc _ _ _ _ _ _ q s'
theorem Wp.region {P N id ops Q L} (h : GoT P ops N ops.toList (Q .normal) L) : Wp P N (.region id ops false) Q L := by
  intro W0 m0 sa m bl ac w s Qc hc
  exact wp_region_list (h _ _ _ _ _ _ _ s Qc fun L' a' w' m' bl' q s' => hc .normal _ _ _ _ _ q s')

/-! results -/
inductive ResOk (P : Program) (L : LS) : ResultVar → AV → Prop
  | tmp {t x} : find t L.e = some x → ResOk P L (.tmp t) x
  | agg {t ty id l} (n : Nat) : find t L.e = some (.ptr id 0) → find id L.h = some (.cells l) → tAg P ty = some true → tSz P ty = some n → n ≤ l.length → ResOk P L (.cell t ty) (.agg (l.take n))
  | one {t ty id x l} : find t L.e = some (.ptr id 0) → find id L.h = some (.cells (x :: l)) → tAg P ty = some false → ResOk P L (.cell t ty) x
inductive RessOk (P : Program) (L : LS) : List ResultVar → List AV → Prop
  | nil : RessOk P L [] []
  | cons {r rs x xs} : ResOk P L r x → RessOk P L rs xs → RessOk P L (r :: rs) (x :: xs)
def tupleOf : List AV → AV
  | [x] => x
  | l => .tup l
def resOf (tmps : Array Value) (r : ResultVar) : Sem Value :=
  match r with
  | .tmp t => Pure.pure (tmps.getD t undef)
  | .cell a t => do loadVar t (← asAddr (tmps.getD a undef))
theorem results_eq (fn : Func) (tmps : Array Value) : results fn tmps = (do
    let vs ← fn.results.mapM (resOf tmps)
    Pure.pure (if h : vs.size = 1 then vs[0] else .tuple vs) : Sem Value) := rfl
theorem take_get {α} {cs : List α} {k j : Nat} {v : α} (h : (cs.take k)[j]? = some v) : cs[j]? = some v := by
  rw [List.getElem?_take] at h
  split at h
  · exact h
  · cases h
theorem ResOk.run {P N W0 m0 L sa a w m bl r x} (h : ResOk P L r x) (s : Sim N W0 m0 L sa a w m bl) : ∃ v, (resOf a.tmps r).run P w = .ok v w ∧ Rep m bl x v := by
  unfold resOf
  cases h with
  | tmp h => exact ⟨_, rfl, s.env _ _ h⟩
  | agg n h1 h2 h3 h4 h5 =>
    rename_i t ty id l
    have hp := s.env _ _ h1
    generalize hv : a.tmps.getD t undef = v at hp
    cases hp with
    | ptr hb' =>
      rcases s.ws.blk _ _ h2 with ⟨hn, -⟩ | ⟨b', nn, arr, T, pre, rest, hb, hh1, hsz, hpre, hr, h1c⟩
      · rw [hn] at hb'; cases hb'
      rw [hb] at hb'; cases hb'
      refine ⟨.agg (pre.take n).toArray, ?_, .agg (hr.take n) fun c hc => h1c c (List.mem_of_mem_take hc)⟩
      have hl := hr.length
      have := run_loadVar_agg (P := P) (ty := ty) (cs := pre.take n) (w := w) (b := _) (o := 0) h3 (by rw [h4]; simp; omega) (fun j v e => by rw [cell_of_blk hh1, Nat.zero_add]; exact pre_get hpre (take_get e))
      simp only [hv]
      simp [asAddr, this]
  | one h1 h2 h3 =>
    rename_i t ty id l
    have hp := s.env _ _ h1
    generalize hv : a.tmps.getD t undef = v at hp
    cases hp with
    | ptr hb' =>
      rcases s.ws.blk _ _ h2 with ⟨hn, -⟩ | ⟨b', nn, arr, T, pre, rest, hb, hh1, hsz, hpre, hr, h1c⟩
      · rw [hn] at hb'; cases hb'
      rw [hb] at hb'; cases hb'
      obtain ⟨v, hv1, hv2⟩ := hr.get 0 x rfl
      refine ⟨v, ?_, hv2⟩
      have hc := cell_of_blk (j := 0) hh1
      rw [pre_get hpre hv1] at hc
      simp only [hv]
      simp [asAddr, run_loadVar_one h3 hc]
theorem RessOk.run {P N W0 m0 L sa a w m bl} (s : Sim N W0 m0 L sa a w m bl) : ∀ {rs xs}, RessOk P L rs xs → ∃ vs, (rs.mapM (resOf a.tmps)).run P w = .ok vs w ∧ Reps m bl xs vs
  | _, _, .nil => ⟨[], by simp, .nil⟩
  | _, _, .cons h t => by
    obtain ⟨v, h1, h2⟩ := h.run s
    obtain ⟨vs, h3, h4⟩ := RessOk.run s t
    exact ⟨v :: vs, by rw [List.mapM_cons]; simp [h1, h3], .cons h2 h4⟩
theorem RessOk.results {P N W0 m0 L sa a w m bl fn xs} (s : Sim N W0 m0 L sa a w m bl) (h : RessOk P L fn.results.toList xs) : ∃ v, (results fn a.tmps).run P w = .ok v w ∧ Rep m bl (tupleOf xs) v := by
  obtain ⟨vs, h1, h2⟩ := RessOk.run s h
  refine ⟨if h : vs.toArray.size = 1 then vs.toArray[0] else .tuple vs.toArray, ?_, ?_⟩
  · rw [results_eq, Sem.run_bind, Array.mapM_eq_mapM_toList]
    simp [h1]
  · cases h2 with
    | nil => simp [tupleOf]; exact .tup .nil
    | cons hx ht =>
      cases ht with
      | nil => simpa [tupleOf] using hx
      | cons hy ht => simpa [tupleOf] using Rep.tup (.cons hx (.cons hy ht))

def envFrom (i : Nat) : List AV → Env
  | [] => []
  | x :: l => (i, x) :: envFrom (i + 1) l
theorem find_envFrom : ∀ (l : List AV) (i t : Nat) (x : AV), find t (envFrom i l) = some x → i ≤ t ∧ l[t - i]? = some x
  | [], _, _, _, h => by simp [envFrom, find] at h
  | y :: l, i, t, x, h => by
    simp only [envFrom] at h
    rw [find_cons] at h
    split at h
    · rename_i hk; subst hk; simp at h; subst h; simp
    · obtain ⟨h1, h2⟩ := find_envFrom l (i + 1) t x h
      refine ⟨by omega, ?_⟩
      have : t - i = (t - (i + 1)) + 1 := by omega
      rw [this]; simpa using h2
theorem EnvRep.args {m bl args vs} (hr : Reps m bl args vs) (n : Nat) : EnvRep m bl (envFrom 0 args) (vs.toArray ++ Array.replicate n undef) := by
  intro t x e
  obtain ⟨-, h2⟩ := find_envFrom args 0 t x e
  obtain ⟨v, hv1, hv2⟩ := hr.get t x (by simpa using h2)
  rw [Array.getD_eq_getD_getElem?]
  have hlt : t < vs.length := by
    rcases Nat.lt_or_ge t vs.length with h | h
    · exact h
    · simp [List.getElem?_eq_none h] at hv1
  rw [Array.getElem?_append_left (by simpa using hlt)]
  simpa [hv1] using hv2

/-- A function's contract from its body. -/
theorem FnR.intro {P f fn c args r hr N} (hf : P.funcs[f]? = some fn) (hb : fn.body = some c) (hN : fn.ntmps = N) (hn : args.length ≤ N)
    (h : Wp P N c (fun e L => (e = .normal ∨ e = .ret) ∧ ∃ xs L2, RessOk P L fn.results.toList xs ∧ Tells { L with e := [(0, tupleOf xs)], s := [] } L2 ∧ find 0 L2.e = some r ∧ L2.h = hr ∧ ∀ d, find d hr = none → L2.f d) ⟨envFrom 0 args, [], [], fun _ => True⟩) : FnR P f args r hr := by
  intro w m vs hi hrp
  refine calls_of_wp hf hb ?_
  have hlen := hrp.length
  have s0 : Sim N w m ⟨envFrom 0 args, [], [], fun _ => True⟩ [] { tmps := vs.toArray ++ Array.replicate (fn.ntmps - vs.toArray.size) undef, defers := [] } w m noNames :=
    ⟨rfl, by simp; omega, Below.refl _ _, ⟨hi, Mem.le.refl m, fun _ _ _ h => .inl h, by simp [find], by simp [find], by simp [noNames], by simp [noNames]⟩, .args hrp _, trivial, fun d _ => rfl⟩
  refine h w m [] m noNames _ w s0 _ ?_
  rintro e L' a' w' m' bl' ⟨he, xs, L2, hxs, ht, h0, hh, hf2⟩ s'
  obtain ⟨v, hv1, hv2⟩ := RessOk.results s' hxs
  have s3 : Sim 1 w m { L' with e := [(0, tupleOf xs)], s := [] } [] { tmps := #[v], defers := [] } w' m' bl' := by
    refine ⟨rfl, rfl, s'.below, s'.ws, ?_, trivial, s'.free⟩
    intro t x hx
    rw [find_cons] at hx
    split at hx
    · rename_i h0; subst h0; cases hx; simpa using hv2
    · simp [find] at hx
  obtain ⟨m2, bl2, s4⟩ := ht _ _ _ _ _ _ _ _ s3
  have hv := s4.env 0 r h0
  have hb : bodyPost P fn (fun e w' => ∃ v m' bl', e = .returned v ∧ Below w.heap.size w w' ∧ WSim w.heap.size m hr m' bl' w' ∧ (∀ id, find id hr = none → bl' id = none) ∧ Rep m' bl' r v) .normal a' w' :=
    ⟨s'.defers, v, hv1, v, m2, bl2, rfl, s'.below, hh ▸ s4.ws, fun id hid => s4.free id (hf2 id hid), by simpa using hv⟩
  rcases he with rfl | rfl <;> exact hb

theorem FnR.bare {P f args r} (h : FnR P f args r []) : FnR P f args r.bare [] := by
  intro w m vs hi hr
  refine (h w m vs hi hr).mono ?_
  rintro e w' ⟨v, m', bl', h1, h2, h3, h4, h5⟩
  exact ⟨v, m', bl', h1, h2, h3, h4, h5.bare⟩
end Go.Rx
