/-
  Ghosts' steps: names go and are renamed, a block is written no more. No conditions.
-/
import Derived.Test.YtdknhngjfoaphaaGreatRxG
set_option linter.all false
namespace Go.Rx
open Go.RowKit

/-- What stands for x stands for y. -/
def Sub (x y : AV) : Prop := ∀ m bl v, Rep m bl x v → Rep m bl y v
def SubL (l l' : List AV) : Prop := ∀ m bl vs, Reps m bl l vs → Reps m bl l' vs
theorem Sub.refl (x : AV) : Sub x x := fun _ _ _ h => h
theorem SubL.refl (l : List AV) : SubL l l := fun _ _ _ h => h
theorem Sub.undef (x : AV) : Sub x .undef := fun _ _ _ _ => .undef
theorem SubL.cons {x y l l'} (h : Sub x y) (k : SubL l l') : SubL (x :: l) (y :: l') := fun m bl vs r => by cases r with | cons a b => exact .cons (h _ _ _ a) (k _ _ _ b)
theorem Sub.agg {l l'} (h : SubL l l') : Sub (.agg l) (.agg l') := fun m bl v r => by cases r with | agg a b => exact .agg (h _ _ _ a) b
theorem Sub.tup {l l'} (h : SubL l l') : Sub (.tup l) (.tup l') := fun m bl v r => by cases r with | tup a => exact .tup (h _ _ _ a)
theorem Sub.clo {f l l'} (h : SubL l l') : Sub (.clo f l) (.clo f l') := fun m bl v r => by cases r with | clo a => exact .clo (h _ _ _ a)
theorem Sub.opt {c x y} (h : Sub x y) : Sub (.opt c x) (.opt c y) := fun m bl v r => by cases r with | opt a b => exact .opt (fun e => h _ _ _ (a e)) b
theorem Sub.ifc {t x y} (h : Sub x y) : Sub (.ifc t x) (.ifc t y) := fun m bl v r => by cases r with | ifc a => exact .ifc (h _ _ _ a)
theorem Sub.cap {c sz l} : Sub (.sl c sz l) (.sl false sz l) := fun m bl v r => by
  cases r with
  | slnil => exact .slnil
  | sl h1 h2 h3 h4 h5 h6 h7 => exact .sl h1 h2 h3 h4 h5 h6 (by simp)
theorem Sub.nil {c sz} : Sub (.v (.slice none 0 0)) (.sl c sz []) := fun m bl v r => by cases r; exact .slnil
theorem Sub.room {id off len mc mc' sz} (h : len ≤ mc') (h2 : mc' ≤ mc) : Sub (.row id off len mc sz) (.row id off len mc' sz) := fun m bl v r => by
  cases r with
  | rownil => obtain rfl : mc' = 0 := by omega
              exact .rownil
  | row a b c d => exact .row a h (by omega) d
theorem SubL.len {l l'} (h : SubL l l') {m bl vs} (r : Reps m bl l vs) : l'.length = l.length := by rw [r.length, (h _ _ _ r).length]

/-- Tells as much of an env as the other. -/
def SubN (nils : Nat → Bool) (x y : AV) : Prop := ∀ m bl v, (∀ id, nils id = true → bl id = some .nil) → Rep m bl x v → Rep m bl y v
def SubLN (nils : Nat → Bool) (l l' : List AV) : Prop := ∀ m bl vs, (∀ id, nils id = true → bl id = some .nil) → Reps m bl l vs → Reps m bl l' vs
theorem Sub.n {nils x y} (h : Sub x y) : SubN nils x y := fun _ _ _ _ k => h _ _ _ k
theorem SubL.n {nils x y} (h : SubL x y) : SubLN nils x y := fun _ _ _ _ k => h _ _ _ k
theorem SubN.nilrw {nils : Nat → Bool} {id sz} (h : nils id = true) : SubN nils (.v (.slice none 0 0)) (.rw id sz) := fun m bl v k r => by cases r; exact .rwnil (k id h)
theorem SubLN.cons {nils x y l l'} (h : SubN nils x y) (k : SubLN nils l l') : SubLN nils (x :: l) (y :: l') := fun m bl vs hn r => by cases r with | cons a b => exact .cons (h _ _ _ hn a) (k _ _ _ hn b)
theorem SubN.agg {nils l l'} (h : SubLN nils l l') : SubN nils (.agg l) (.agg l') := fun m bl v hn r => by cases r with | agg a b => exact .agg (h _ _ _ hn a) b
theorem SubN.tup {nils l l'} (h : SubLN nils l l') : SubN nils (.tup l) (.tup l') := fun m bl v hn r => by cases r with | tup a => exact .tup (h _ _ _ hn a)
def SubE (q : Nat → Option Nat) (nils : Nat → Bool) (e e' : Env) : Prop := ∀ t x, find t e' = some x → x = .undef ∨ ∃ y, find t e = some y ∧ SubN nils (y.re q) x
def SubS (q : Nat → Option Nat) (nils : Nat → Bool) : List Env → List Env → Prop
  | [], [] => True
  | e :: s, e' :: s' => SubE q nils e e' ∧ SubS q nils s s'
  | _, _ => False
def SubB (q : Nat → Option Nat) (nils : Nat → Bool) : ABlk → ABlk → Prop
  | .cells l0, .cells l => SubLN nils (reL q l0) l
  | .iter s p, .iter s' p' => s = s' ∧ p = p'
  | _, _ => False

/-- Names go and are renamed: q forwards, r backwards. -/
structure LS.ren (q r : Nat → Option Nat) (nils : Nat → Bool) (L L' : LS) : Prop where
  inv : ∀ a b, q a = some b ↔ r b = some a
  e : SubE q nils L.e L'.e
  s : SubS q nils L.s L'.s
  h : ∀ id b, find id L'.h = some b → (r id = none ∧ nils id = true ∧ b = .cells []) ∨ ∃ id0 b0, r id = some id0 ∧ find id0 L.h = some b0 ∧ SubB q nils b0 b
  f : ∀ d, L'.f d → nils d = false ∧ ∀ a, r d = some a → L.f a
  nl : ∀ d, nils d = true → r d = none

theorem LS.ren.tells {q r nils L L'} (h : LS.ren q r nils L L') : Tells L L' := by
  intro N W0 m0 sa a w m bl s
  let bl' : Names := fun id => match r id with | some i => bl i | none => if nils id then some .nil else none
  have hbr : ∀ id i, r id = some i → bl' id = bl i := by intro id i e; show (match r id with | some i => bl i | none => _) = _; rw [e]
  have hb : ∀ id id', q id = some id' → ∀ b, bl id = some b → bl' id' = some b := by
    intro id id' hq b hb
    rw [hbr id' id ((h.inv id id').1 hq)]; exact hb
  have hnil : ∀ id, nils id = true → bl' id = some .nil := by
    intro id e
    show (match r id with | some i => bl i | none => if nils id then some .nil else none) = _
    rw [h.nl id e]; simp [e]
  have hcase : ∀ id x, bl' id = some x → (∃ i, r id = some i ∧ bl i = some x) ∨ x = .nil := by
    intro id x e
    change (match r id with | some i => bl i | none => if nils id then some .nil else none) = _ at e
    cases hr : r id with
    | some i => rw [hr] at e; exact .inl ⟨i, rfl, e⟩
    | none =>
      rw [hr] at e
      simp only at e
      split at e
      · cases e; exact .inr rfl
      · cases e
  refine ⟨m, bl', s.defers, s.size, s.below, ⟨s.ws.imm, s.ws.le, s.ws.grow, ?_, ?_, ?_, ?_⟩, ?_, ?_, ?_⟩
  · intro id l e
    rcases h.h id _ e with ⟨h1, h2, h3⟩ | ⟨id0, b0, h1, h2, h3⟩
    · cases h3; exact .inl ⟨hnil id h2, rfl⟩
    · cases b0 with
      | iter => exact absurd h3 (by simp [SubB])
      | cells l0 =>
        rcases s.ws.blk id0 l0 h2 with ⟨g1, rfl⟩ | ⟨b, n, arr, T, pre, rest, g1, g2, g3, g4, g5, g6⟩
        · refine .inl ⟨by rw [hbr id id0 h1, g1], ?_⟩
          have := h3 m bl' [] hnil (by simp [reL]; exact .nil)
          cases this; rfl
        · exact .inr ⟨b, n, arr, T, pre, rest, by rw [hbr id id0 h1, g1], g2, g3, g4, h3 _ _ _ hnil (g5.re hb), g6⟩
  · intro id x p e
    rcases h.h id _ e with ⟨-, -, h2⟩ | ⟨id0, b0, h1, h2, h3⟩
    · cases h2
    · cases b0 with
      | cells => exact absurd h3 (by simp [SubB])
      | iter x' p' =>
        obtain ⟨rfl, rfl⟩ := h3
        obtain ⟨b, n, g1, g2⟩ := s.ws.it id0 _ _ h2
        exact ⟨b, n, by rw [hbr id id0 h1, g1], g2⟩
  · intro id b n e
    rcases hcase id _ e with ⟨i, -, e2⟩ | e2
    · exact s.ws.own i b n e2
    · cases e2
  · intro id id' b n n' e e'
    rcases hcase id _ e with ⟨i, hi, e2⟩ | e2
    · rcases hcase id' _ e' with ⟨i', hi', e2'⟩ | e2'
      · have := s.ws.inj i i' b n n' e2 e2'
        subst this
        have h1 := (h.inv i id).2 hi
        have h2 := (h.inv i id').2 hi'
        rw [h1] at h2; cases h2; rfl
      · cases e2'
    · cases e2
  · intro t x e
    rcases h.e t x e with rfl | ⟨y, hf, hsub⟩
    · exact .undef
    · exact hsub _ _ _ hnil ((s.env t y hf).re hb)
  · have : ∀ {s0 s1 : List Env} {sa}, SubS q nils s0 s1 → Stk m bl s0 sa → Stk m bl' s1 sa := by
      intro s0
      induction s0 with
      | nil =>
        intro s1 sa hs hk
        cases s1 with
        | nil => cases sa with
          | nil => trivial
          | cons => exact hk
        | cons => exact absurd hs (by simp [SubS])
      | cons e0 s0 ih =>
        intro s1 sa hs hk
        cases s1 with
        | nil => exact absurd hs (by simp [SubS])
        | cons e1 s1 =>
          cases sa with
          | nil => exact absurd hk (by simp [Stk])
          | cons t sa =>
            refine ⟨?_, ih hs.2 hk.2⟩
            intro t' x e
            rcases hs.1 t' x e with rfl | ⟨y, hf, hsub⟩
            · exact .undef
            · exact hsub _ _ _ hnil ((hk.1 t' y hf).re hb)
    exact this h.s s.stk
  · intro d hd
    obtain ⟨h1, h2⟩ := h.f d hd
    show (match r d with | some i => bl i | none => if nils d then some .nil else none) = none
    cases hr : r d with
    | none => simp [h1]
    | some i => simpa [hr] using s.free i (h2 i hr)

/-- What is known of a block is cut to its first k cells; its name goes and a new one comes. -/
structure LS.cut (id nid k : Nat) (sz : Nat) (len mc : Nat) (L L' : LS) (t : Nat) : Prop where
  h0 : ∃ l, find id L.h = some (.cells l) ∧ k ≤ l.length ∧ find nid L'.h = some (.cells (l.take k)) ∧ allBare (l.take k) = true
  t0 : find t L.e = some (.row id 0 len mc sz)
  hk : k = len * sz
  e : ∀ t' x, find t' L'.e = some x → (t' = t ∧ x = .rw nid sz) ∨ ∃ y, find t' L.e = some y ∧ Sub (y.re fun i => if i = id then none else some i) x
  s : L'.s.length = L.s.length ∧ ∀ (i : Nat) (e' e : Env), L'.s[i]? = some e' → L.s[i]? = some e → ∀ t x, find t e' = some x → ∃ y, find t e = some y ∧ Sub (y.re fun i => if i = id then none else some i) x
  h : ∀ i b, i ≠ nid → find i L'.h = some b → i ≠ id ∧ ∃ b0, find i L.h = some b0 ∧ match b0, b with
    | .cells l0, .cells l1 => SubL (reL (fun i => if i = id then none else some i) l0) l1
    | .iter s p, .iter s' p' => s = s' ∧ p = p'
    | _, _ => False
  f : L.f nid ∧ ∀ d, L'.f d → L.f d ∧ d ≠ nid

/- x1 tells what x0 told, but of the names in D. -/
mutual
inductive Le (D : Nat → Prop) : AV → AV → Prop
  | refl {x} : Le D x x
  | undef {x} : Le D x .undef
  | ptr {x id off} : D id → Le D x (.ptr id off)
  | row {x id off len mc sz} : D id → Le D x (.row id off len mc sz)
  | rw {x id sz} : D id → Le D x (.rw id sz)
  | agg {l l'} : LeL D l l' → Le D (.agg l) (.agg l')
  | tup {l l'} : LeL D l l' → Le D (.tup l) (.tup l')
  | clo {f l l'} : LeL D l l' → Le D (.clo f l) (.clo f l')
  | opt {c x y} : Le D x y → Le D (.opt c x) (.opt c y)
  | ifc {t x y} : Le D x y → Le D (.ifc t x) (.ifc t y)
inductive LeL (D : Nat → Prop) : List AV → List AV → Prop
  | nil : LeL D [] []
  | cons {x y l l'} : Le D x y → LeL D l l' → LeL D (x :: l) (y :: l')
end
theorem LeL.refl {D} : ∀ l, LeL D l l
  | [] => .nil
  | _ :: l => .cons .refl (LeL.refl l)
mutual
theorem Le.mono {D D' : Nat → Prop} (h : ∀ i, D i → D' i) : ∀ {x y}, Le D x y → Le D' x y
  | _, _, .refl => .refl
  | _, _, .undef => .undef
  | _, _, .ptr k => .ptr (h _ k)
  | _, _, .row k => .row (h _ k)
  | _, _, .rw k => .rw (h _ k)
  | _, _, .agg k => .agg (k.mono h)
  | _, _, .tup k => .tup (k.mono h)
  | _, _, .clo k => .clo (k.mono h)
  | _, _, .opt k => .opt (k.mono h)
  | _, _, .ifc k => .ifc (k.mono h)
theorem LeL.mono {D D' : Nat → Prop} (h : ∀ i, D i → D' i) : ∀ {x y}, LeL D x y → LeL D' x y
  | _, _, .nil => .nil
  | _, _, .cons a b => .cons (a.mono h) (b.mono h)
end
mutual
theorem Le.trans {D : Nat → Prop} : ∀ {z y x}, Le D z y → Le D y x → Le D z x
  | _, _, _, h, .refl => h
  | _, _, _, _, .undef => .undef
  | _, _, _, _, .ptr k => .ptr k
  | _, _, _, _, .row k => .row k
  | _, _, _, _, .rw k => .rw k
  | _, _, _, h, .agg k => by
    cases h with
    | refl => exact .agg k
    | agg h' => exact .agg (h'.trans k)
  | _, _, _, h, .tup k => by
    cases h with
    | refl => exact .tup k
    | tup h' => exact .tup (h'.trans k)
  | _, _, _, h, .clo k => by
    cases h with
    | refl => exact .clo k
    | clo h' => exact .clo (h'.trans k)
  | _, _, _, h, .opt k => by
    cases h with
    | refl => exact .opt k
    | opt h' => exact .opt (h'.trans k)
  | _, _, _, h, .ifc k => by
    cases h with
    | refl => exact .ifc k
    | ifc h' => exact .ifc (h'.trans k)
theorem LeL.trans {D : Nat → Prop} : ∀ {z y x}, LeL D z y → LeL D y x → LeL D z x
  | _, _, _, .nil, .nil => .nil
  | _, _, _, .cons a b, .cons c d => .cons (a.trans c) (b.trans d)
end
mutual
theorem re_sub {q q0 : Nat → Option Nat} (h : ∀ id, q0 id = none ∨ q id = q0 id) : ∀ x : AV, Sub (x.re q) (x.re q0)
  | .agg l => by simp only [AV.re]; exact .agg (reL_sub h l)
  | .tup l => by simp only [AV.re]; exact .tup (reL_sub h l)
  | .clo f l => by simp only [AV.re]; exact .clo (reL_sub h l)
  | .ptr id off => by
    simp only [AV.re]
    rcases h id with h | h
    · rw [h]; exact .undef _
    · rw [h]; exact .refl _
  | .row id off len mc sz => by
    simp only [AV.re]
    rcases h id with h | h
    · rw [h]; exact .undef _
    · rw [h]; exact .refl _
  | .rw id sz => by
    simp only [AV.re]
    rcases h id with h | h
    · rw [h]; exact .undef _
    · rw [h]; exact .refl _
  | .opt c x => by simp only [AV.re]; exact .opt (re_sub h x)
  | .ifc t x => by simp only [AV.re]; exact .ifc (re_sub h x)
  | .undef => by simp only [AV.re]; exact .refl _
  | .v x => by simp only [AV.re]; exact .refl _
  | .sl c sz l => by simp only [AV.re]; exact .refl _
  | .cptr l => by simp only [AV.re]; exact .refl _
theorem reL_sub {q q0 : Nat → Option Nat} (h : ∀ id, q0 id = none ∨ q id = q0 id) : ∀ l : List AV, SubL (reL q l) (reL q0 l)
  | [] => by simp only [reL]; exact .refl _
  | x :: l => by simp only [reL]; exact .cons (re_sub h x) (reL_sub h l)
end
mutual
theorem Le.sub {D : Nat → Prop} {q q0 : Nat → Option Nat} (h : ∀ id, q0 id = none ∨ q id = q0 id) (hD : ∀ id, D id → q0 id = none) : ∀ {x1 x0}, Le D x1 x0 → Sub (x1.re q) (x0.re q0)
  | _, _, .refl => re_sub h _
  | _, _, .undef => by simp only [AV.re]; exact .undef _
  | _, _, .ptr k => by simp only [AV.re, hD _ k]; exact .undef _
  | _, _, .row k => by simp only [AV.re, hD _ k]; exact .undef _
  | _, _, .rw k => by simp only [AV.re, hD _ k]; exact .undef _
  | _, _, .agg k => by simp only [AV.re]; exact .agg (k.sub h hD)
  | _, _, .tup k => by simp only [AV.re]; exact .tup (k.sub h hD)
  | _, _, .clo k => by simp only [AV.re]; exact .clo (k.sub h hD)
  | _, _, .opt k => by simp only [AV.re]; exact .opt (k.sub h hD)
  | _, _, .ifc k => by simp only [AV.re]; exact .ifc (k.sub h hD)
theorem LeL.sub {D : Nat → Prop} {q q0 : Nat → Option Nat} (h : ∀ id, q0 id = none ∨ q id = q0 id) (hD : ∀ id, D id → q0 id = none) : ∀ {x1 x0}, LeL D x1 x0 → SubL (reL q x1) (reL q0 x0)
  | _, _, .nil => by simp only [reL]; exact .refl _
  | _, _, .cons a b => by simp only [reL]; exact .cons (a.sub h hD) (b.sub h hD)
end
mutual
/-- Dropped names tell less. -/
theorem re_le {q0 : Nat → Option Nat} {D : Nat → Prop} (h : ∀ id, q0 id = some id ∨ D id) : ∀ x : AV, Le D (x.re q0) x
  | .agg l => by simp only [AV.re]; exact .agg (reL_le h l)
  | .tup l => by simp only [AV.re]; exact .tup (reL_le h l)
  | .clo f l => by simp only [AV.re]; exact .clo (reL_le h l)
  | .ptr id off => by
    rcases h id with h | h
    · simp only [AV.re, h]; exact .refl
    · exact .ptr h
  | .row id off len mc sz => by
    rcases h id with h | h
    · simp only [AV.re, h]; exact .refl
    · exact .row h
  | .rw id sz => by
    rcases h id with h | h
    · simp only [AV.re, h]; exact .refl
    · exact .rw h
  | .opt c x => by simp only [AV.re]; exact .opt (re_le h x)
  | .ifc t x => by simp only [AV.re]; exact .ifc (re_le h x)
  | .undef => by simp only [AV.re]; exact .refl
  | .v x => by simp only [AV.re]; exact .refl
  | .sl c sz l => by simp only [AV.re]; exact .refl
  | .cptr l => by simp only [AV.re]; exact .refl
theorem reL_le {q0 : Nat → Option Nat} {D : Nat → Prop} (h : ∀ id, q0 id = some id ∨ D id) : ∀ l : List AV, LeL D (reL q0 l) l
  | [] => by simp only [reL]; exact .nil
  | x :: l => by simp only [reL]; exact .cons (re_le h x) (reL_le h l)
end

/-! a block is written no more -/

/-- What holds where block id, with the cells l, has become immutable memory. -/
structure Frz (id : Nat) (l : List AV) (m : Mem) (bl : Names) (m' : Mem) (bl' : Names) : Prop where
  le : Mem.le m m'
  other : ∀ i x, i ≠ id → bl i = some x → bl' i = some x
  at_ : (bl id = some .nil ∧ l = []) ∨ ∃ b n pre, bl id = some (.blk b n) ∧ n.2 = pre.length ∧ Reps m' noNames l pre ∧ (∀ c ∈ pre, oneCell c = true) ∧ ∀ o v, pre[o]? = some v → m' b o = some v
def FzOk (id : Nat) (l : List AV) (y x : AV) : Prop := ∀ m bl m' bl', Frz id l m bl m' bl' → ∀ v, Rep m bl y v → Rep m' bl' x v
theorem FzOk.of_re {id l} (y : AV) : FzOk id l y (y.re fun i => if i = id then none else some i) := by
  intro m bl m' bl' f v h
  refine (h.mono f.le).re ?_
  intro i i' hi b hb
  split at hi
  · cases hi
  · cases hi; exact f.other i _ ‹_› hb
theorem FzOk.ptr {id l off} : FzOk id l (.ptr id off) (.cptr (l.drop off)) := by
  intro m bl m' bl' f v h
  cases h with
  | ptr hb =>
    rcases f.at_ with ⟨h1, -⟩ | ⟨b, n, pre, h1, -, h2, h3, h4⟩
    · rw [h1] at hb; cases hb
    · rw [h1] at hb; cases hb
      exact .cptr (h2.drop off) (fun c hc => h3 c (List.mem_of_mem_drop hc)) fun j v e => h4 _ v (by simpa using e)
theorem FzOk.row {id l off len mc sz els} (hl : els.length = len) (he : ∀ x ∈ els, x.cells.length = sz) (hc : els.flatMap AV.cells = (l.drop off).take (len * sz)) : FzOk id l (.row id off len mc sz) (.sl false sz els) := by
  intro m bl m' bl' f v h
  cases h with
  | rownil =>
    have : els = [] := List.eq_nil_of_length_eq_zero hl
    subst this
    rename_i ad
    cases ad with
    | none => exact .slnil
    | some a => exact .sl (l := []) (cs := []) (by simp) .nil (by simp) (by simp) (by simp) (Nat.le_refl _) (by simp)
  | row hb g1 g2 g3 =>
    rename_i b n cap
    rcases f.at_ with ⟨h1, -⟩ | ⟨b', n', pre, h1, -, h2, h3, h4⟩
    · rw [h1] at hb; cases hb
    · rw [h1] at hb; cases hb
      subst hl
      refine .sl (cs := (pre.drop off).take (els.length * sz)) he (by rw [hc]; exact (h2.drop off).take _) (fun c hc => h3 c (List.mem_of_mem_drop (List.mem_of_mem_take hc))) (fun _ => rfl) (fun j v e => h4 _ v (take_drop_get e)) (by omega) (by simp)

theorem FzOk.rw {id l sz els} (he : ∀ x ∈ els, x.cells.length = sz) (hp : 0 < sz) (hc : els.flatMap AV.cells = l) : FzOk id l (.rw id sz) (.sl false sz els) := by
  intro m bl m' bl' f v h
  have hl : l.length = els.length * sz := by rw [← hc, flat_len he]
  cases h with
  | rwnil hb =>
    rcases f.at_ with ⟨h1, rfl⟩ | ⟨b, n, pre, h1, -⟩
    · have : els = [] := by
        rcases Nat.mul_eq_zero.1 (show els.length * sz = 0 by rw [← hl]; rfl) with h | h
        · exact List.eq_nil_of_length_eq_zero h
        · omega
      subst this
      rename_i ad
      cases ad with
      | none => exact .slnil
      | some a => exact .sl (l := []) (cs := []) (by simp) .nil (by simp) (by simp) (by simp) (Nat.le_refl _) (by simp)
    · rw [h1] at hb; cases hb
  | rw hb g1 g2 g3 =>
    rename_i b n cap len
    rcases f.at_ with ⟨h1, -⟩ | ⟨b', n', pre, h1, h2, h3, h4, h5⟩
    · rw [h1] at hb; cases hb
    · rw [h1] at hb; cases hb
      have hpl := h3.length
      have : len = els.length := by
        have : len * sz = els.length * sz := by rw [g1, h2, ← hpl, hl]
        exact Nat.eq_of_mul_eq_mul_right hp this
      subst this
      exact .sl (cs := pre) he (by rw [hc]; exact h3) h4 (fun _ => rfl) (fun j v e => by simp only [Nat.zero_add]; exact h5 _ v e) g2 (by simp)
def FzB (id : Nat) (l : List AV) : ABlk → ABlk → Prop
  | .cells l0, .cells l1 => ∀ m bl m' bl', Frz id l m bl m' bl' → ∀ vs, Reps m bl l0 vs → Reps m' bl' l1 vs
  | .iter s p, .iter s' p' => s = s' ∧ p = p'
  | _, _ => False
structure LS.frz (id : Nat) (l : List AV) (L L' : LS) : Prop where
  h0 : find id L.h = some (.cells l)
  bare : allBare l = true
  e : ∀ t x, find t L'.e = some x → ∃ y, find t L.e = some y ∧ FzOk id l y x
  s : L'.s.length = L.s.length ∧ ∀ (i : Nat) (e' e : Env), L'.s[i]? = some e' → L.s[i]? = some e → ∀ t x, find t e' = some x → ∃ y, find t e = some y ∧ FzOk id l y x
  h : ∀ i b, find i L'.h = some b → i ≠ id ∧ ∃ b0, find i L.h = some b0 ∧ FzB id l b0 b
  f : ∀ d, L'.f d → L.f d

theorem Stk_iff {m bl} : ∀ {s sa}, Stk m bl s sa ↔ s.length = sa.length ∧ ∀ (i : Nat) e t, s[i]? = some e → sa[i]? = some t → EnvRep m bl e t
  | [], [] => by simp [Stk]
  | [], _ :: _ => by simp [Stk]
  | _ :: _, [] => by simp [Stk]
  | e :: s, t :: sa => by
    simp only [Stk, Stk_iff (s := s) (sa := sa), List.length_cons, Nat.add_right_cancel_iff]
    constructor
    · rintro ⟨h1, h2, h3⟩
      refine ⟨h2, fun i e' t' he ht => ?_⟩
      cases i with
      | zero => simp at he ht; subst he ht; exact h1
      | succ i => exact h3 i e' t' (by simpa using he) (by simpa using ht)
    · rintro ⟨h1, h2⟩
      exact ⟨h2 0 e t rfl rfl, h1, fun i e' t' he ht => h2 (i + 1) e' t' (by simpa using he) (by simpa using ht)⟩

theorem LS.frz.tells {id l L L'} (h : LS.frz id l L L') : Tells L L' := by
  intro N W0 m0 sa a w m bl s
  -- the memory behind
  obtain ⟨m', hle, himm, hgrow, hat, hother⟩ : ∃ m' : Mem, Mem.le m m' ∧ Imm m' w ∧ (∀ b o v, m' b o = some v → m0 b o = some v ∨ W0.heap.size ≤ b) ∧
      ((bl id = some .nil ∧ l = []) ∨ ∃ b n pre, bl id = some (.blk b n) ∧ n.2 = pre.length ∧ Reps m' noNames l pre ∧ (∀ c ∈ pre, oneCell c = true) ∧ ∀ o v, pre[o]? = some v → m' b o = some v) ∧
      (∀ i b n, i ≠ id → bl i = some (.blk b n) → ∀ o, m' b o = none) := by
    rcases s.ws.blk id l h.h0 with ⟨h1, h2⟩ | ⟨b, n, arr, T, pre, rest, g1, g2, g3, g4, g5, g6⟩
    · exact ⟨m, Mem.le.refl m, s.ws.imm, s.ws.grow, .inl ⟨h1, h2⟩, fun i b n _ hb => (s.ws.own i b n hb).2.2⟩
    · obtain ⟨o1, o2, o3⟩ := s.ws.own id b n g1
      refine ⟨fun b' o => if b' = b then pre[o]? else m b' o, ?_, ?_, ?_, .inr ⟨b, n, pre, g1, by rw [← g3], ?_, g6, fun o v e => by simpa using e⟩, ?_⟩
      · intro b' o v hv
        show (if _ then _ else _) = some v
        rw [if_neg]
        · exact hv
        · rintro rfl; rw [o3 o] at hv; cases hv
      · intro b' o v hv
        by_cases he : b' = b
        · subst he
          have hv' : pre[o]? = some v := by simpa using hv
          rw [cell_of_blk g2]; exact pre_get g4 hv'
        · exact s.ws.imm b' o v (by simpa [he] using hv)
      · intro b' o v hv
        by_cases he : b' = b
        · subst he; exact .inr o1
        · exact s.ws.grow b' o v (by simpa [he] using hv)
      · have := g5.bare (bl' := noNames)
        rw [bareL, bareL_of h.bare] at this
        refine this.mono ?_
        intro b' o v hv
        show (if _ then _ else _) = some v
        rw [if_neg]
        · exact hv
        · rintro rfl; rw [o3 o] at hv; cases hv
      · intro i b' n' hi hb o
        show (if _ then _ else _) = none
        rw [if_neg]
        · exact (s.ws.own i b' n' hb).2.2 o
        · rintro rfl; exact hi (s.ws.inj i id b' n' n hb g1)
  let bl' : Names := fun i => if i = id then none else bl i
  have hfrz : Frz id l m bl m' bl' := ⟨hle, fun i x hi hx => by show (if _ then _ else _) = _; rw [if_neg hi]; exact hx, hat⟩
  have hbl : ∀ i x, bl' i = some x → i ≠ id ∧ bl i = some x := by
    intro i x hx
    change (if _ then _ else _) = _ at hx
    split at hx
    · cases hx
    · exact ⟨‹_›, hx⟩
  refine ⟨m', bl', s.defers, s.size, s.below, ⟨himm, s.ws.le.trans hle, hgrow, ?_, ?_, ?_, ?_⟩, ?_, ?_, ?_⟩
  · intro i l1 e
    obtain ⟨hne, b0, h1, h2⟩ := h.h i _ e
    cases b0 with
    | iter => exact absurd h2 (by simp [FzB])
    | cells l0 =>
      rcases s.ws.blk i l0 h1 with ⟨g1, rfl⟩ | ⟨b, n, arr, T, pre, rest, g1, g2, g3, g4, g5, g6⟩
      · refine .inl ⟨by show (if _ then _ else _) = _; rw [if_neg hne]; exact g1, ?_⟩
        have := h2 _ _ _ _ hfrz [] .nil
        cases this; rfl
      · exact .inr ⟨b, n, arr, T, pre, rest, hfrz.other i _ hne g1, g2, g3, g4, h2 _ _ _ _ hfrz pre g5, g6⟩
  · intro i x p e
    obtain ⟨hne, b0, h1, h2⟩ := h.h i _ e
    cases b0 with
    | cells => exact absurd h2 (by simp [FzB])
    | iter x' p' =>
      obtain ⟨rfl, rfl⟩ := h2
      obtain ⟨b, n, g1, g2⟩ := s.ws.it i _ _ h1
      exact ⟨b, n, hfrz.other i _ hne g1, g2⟩
  · intro i b n e
    obtain ⟨h1, h2⟩ := hbl i _ e
    obtain ⟨g1, g2, g3⟩ := s.ws.own i b n h2
    exact ⟨g1, g2, hother i b n h1 h2⟩
  · intro i i' b n n' e e'
    exact s.ws.inj i i' b n n' (hbl i _ e).2 (hbl i' _ e').2
  · intro t x e
    obtain ⟨y, hf, hz⟩ := h.e t x e
    exact hz _ _ _ _ hfrz _ (s.env t y hf)
  · obtain ⟨k1, k2⟩ := Stk_iff.1 s.stk
    refine Stk_iff.2 ⟨by rw [h.s.1, k1], fun i e' t' he ht t x hx => ?_⟩
    have hlt : i < L.s.length := by
      rw [← h.s.1]
      rcases Nat.lt_or_ge i L'.s.length with h | h
      · exact h
      · rw [List.getElem?_eq_none h] at he; cases he
    obtain ⟨y, hf, hz⟩ := h.s.2 i e' L.s[i] he (List.getElem?_eq_getElem hlt) t x hx
    exact hz _ _ _ _ hfrz _ (k2 i _ t' (List.getElem?_eq_getElem hlt) ht t y hf)
  · intro d hd
    show (if _ then _ else _) = none
    split
    · rfl
    · exact s.free d (h.f d hd)
end Go.Rx
