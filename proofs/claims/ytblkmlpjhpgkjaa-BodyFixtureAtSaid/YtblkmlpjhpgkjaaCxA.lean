/-
  Abstract values, what they stand for in memory, and the frame of a call. No conditions.
-/
import Derived.WalkKit
set_option linter.all false
namespace Go.Cx
open Go.RowKit

abbrev Tok := Nat × Nat

/-- Abstract values: scalars; structs and arrays as flat lists of cells; tuples; slices as immutable lists of elements (with the token of whoever
    may append in place); a pointer into immutable memory; a pointer into a block of the call's own; a slice of such a block; a value that counts only under a condition. -/
inductive AV where
  | undef
  | v (x : Value)
  | agg (l : List AV)
  | tup (l : List AV)
  | sl (tk : Option Tok) (sz : Nat) (l : List AV)
  | cptr (l : List AV)
  | clo (f : Nat) (l : List AV)
  | ptr (id off : Nat)
  | row (id off len cap sz : Nat)
  | opt (c : Bool) (x : AV)
  deriving Inhabited

def AV.cells : AV → List AV
  | .agg l => l
  | x => [x]

/-- Immutable memory: block, offset. -/
abbrev Mem := Nat → Nat → Option Value
/-- Which block an own block's name stands for. -/
abbrev Names := Nat → Option Nat
/-- Which spare places a token stands for: block, first place, behind the last place. -/
abbrev Spare := Tok → Option (Nat × Nat × Nat)

def noNames : Names := fun _ => none
def noSpare : Spare := fun _ => none

/-- May the value stand in one cell? -/
abbrev oneCell (v : Value) : Bool := v.oneCell'

mutual
inductive Rep (m : Mem) : Names → Spare → AV → Value → Prop
  | undef {bl hh x} : Rep m bl hh .undef x
  | v {bl hh x} : Rep m bl hh (.v x) x
  | agg {bl hh l cs} : Reps m bl hh l cs → (∀ c ∈ cs, oneCell c = true) → Rep m bl hh (.agg l) (.agg cs.toArray)
  | tup {bl hh l cs} : Reps m bl hh l cs → Rep m bl hh (.tup l) (.tuple cs.toArray)
  | slnil {bl hh tk sz} : Rep m bl hh (.sl tk sz []) (.slice none 0 0)
  | sl {bl hh tk sz l a cap cs} : (∀ e ∈ l, e.cells.length = sz) → Reps m noNames noSpare (l.flatMap AV.cells) cs → (∀ c ∈ cs, oneCell c = true) →
      (0 < cs.length → a.spot = none) → (∀ j v, cs[j]? = some v → m a.block (a.off + j) = some v) → l.length ≤ cap →
      (∀ k, tk = some k → cap = l.length ∨ (a.spot = none ∧ hh k = some (a.block, a.off + l.length * sz, a.off + cap * sz))) →
      Rep m bl hh (.sl tk sz l) (.slice (some a) l.length cap)
  | cptr {bl hh l b o cs} : Reps m noNames noSpare l cs → (∀ c ∈ cs, oneCell c = true) → (∀ j v, cs[j]? = some v → m b (o + j) = some v) →
      Rep m bl hh (.cptr l) (.pointer (some ⟨b, o, none⟩))
  | clo {bl hh f l cs} : Reps m noNames noSpare l cs → Rep m bl hh (.clo f l) (.func (.func f) #[] cs.toArray)
  | ptr {bl hh id off b} : bl id = some b → Rep m bl hh (.ptr id off) (.pointer (some ⟨b, off, none⟩))
  | row {bl hh id off len cap sz b} : bl id = some b → len ≤ cap → Rep m bl hh (.row id off len cap sz) (.slice (some ⟨b, off, none⟩) len cap)
  | opt {bl hh c x v} : (c = true → Rep m bl hh x v) → (c = false → v = undef) → Rep m bl hh (.opt c x) v
inductive Reps (m : Mem) : Names → Spare → List AV → List Value → Prop
  | nil {bl hh} : Reps m bl hh [] []
  | cons {bl hh x l v vs} : Rep m bl hh x v → Reps m bl hh l vs → Reps m bl hh (x :: l) (v :: vs)
end

def Mem.le (m m' : Mem) : Prop := ∀ b o v, m b o = some v → m' b o = some v
theorem Mem.le.refl (m : Mem) : Mem.le m m := fun _ _ _ h => h
theorem Mem.le.trans {a b c : Mem} (h : Mem.le a b) (k : Mem.le b c) : Mem.le a c := fun _ _ _ e => k _ _ _ (h _ _ _ e)

mutual
theorem Rep.mono {m m' : Mem} (hm : Mem.le m m') : ∀ {bl hh x v}, Rep m bl hh x v → Rep m' bl hh x v
  | _, _, _, _, .undef => .undef
  | _, _, _, _, .v => .v
  | _, _, _, _, .agg h h1 => .agg (h.mono hm) h1
  | _, _, _, _, .tup h => .tup (h.mono hm)
  | _, _, _, _, .slnil => .slnil
  | _, _, _, _, .sl h1 h2 h3 h4 h5 h6 h7 => .sl h1 (h2.mono hm) h3 h4 (fun j v e => hm _ _ _ (h5 j v e)) h6 h7
  | _, _, _, _, .cptr h1 h2 h3 => .cptr (h1.mono hm) h2 (fun j v e => hm _ _ _ (h3 j v e))
  | _, _, _, _, .clo h => .clo (h.mono hm)
  | _, _, _, _, .ptr h => .ptr h
  | _, _, _, _, .row h h2 => .row h h2
  | _, _, _, _, .opt h h2 => .opt (fun c => (h c).mono hm) h2
theorem Reps.mono {m m' : Mem} (hm : Mem.le m m') : ∀ {bl hh l vs}, Reps m bl hh l vs → Reps m' bl hh l vs
  | _, _, _, _, .nil => .nil
  | _, _, _, _, .cons h t => .cons (h.mono hm) (t.mono hm)
end

theorem Reps.length {m bl hh} : ∀ {l vs}, Reps m bl hh l vs → l.length = vs.length
  | _, _, .nil => rfl
  | _, _, .cons _ t => by simp [t.length]

theorem Reps.append {m bl hh} : ∀ {l vs l' vs'}, Reps m bl hh l vs → Reps m bl hh l' vs' → Reps m bl hh (l ++ l') (vs ++ vs')
  | _, _, _, _, .nil, h => h
  | _, _, _, _, .cons h t, k => .cons h (t.append k)

theorem Reps.get {m bl hh} : ∀ {l vs}, Reps m bl hh l vs → ∀ (i : Nat) (x : AV), l[i]? = some x → ∃ v, vs[i]? = some v ∧ Rep m bl hh x v
  | _, _, .nil, i, x, h => by simp at h
  | _, _, .cons h t, 0, x, e => by simp at e; subst e; exact ⟨_, rfl, h⟩
  | _, _, .cons h t, i + 1, x, e => by simpa using t.get i x (by simpa using e)

theorem Reps.take {m bl hh} : ∀ {l vs}, Reps m bl hh l vs → ∀ n, Reps m bl hh (l.take n) (vs.take n)
  | _, _, h, 0 => by simp; exact .nil
  | _, _, .nil, n + 1 => by simp; exact .nil
  | _, _, .cons h t, n + 1 => by simpa using .cons h (t.take n)

theorem Reps.drop {m bl hh} : ∀ {l vs}, Reps m bl hh l vs → ∀ n, Reps m bl hh (l.drop n) (vs.drop n)
  | _, _, h, 0 => by simpa using h
  | _, _, .nil, n + 1 => by simp; exact .nil
  | _, _, .cons h t, n + 1 => by simpa using t.drop n

theorem Reps.set {m bl hh} : ∀ {l vs}, Reps m bl hh l vs → ∀ (i : Nat) {x v}, Rep m bl hh x v → Reps m bl hh (l.set i x) (vs.set i v)
  | _, _, .nil, i, x, v, h => by simp; exact .nil
  | _, _, .cons h t, 0, x, v, e => by simpa using .cons e t
  | _, _, .cons h t, i + 1, x, v, e => by simpa using .cons h (t.set i e)

/- names that go count for nothing any more; tokens are renamed or go. -/
mutual
def AV.re (p : Nat → Bool) (g : Tok → Option Tok) : AV → AV
  | .agg l => .agg (reL p g l)
  | .tup l => .tup (reL p g l)
  | .sl none sz l => .sl none sz l
  | .sl (some k) sz l => .sl (g k) sz l
  | .ptr id off => if p id then .undef else .ptr id off
  | .row id off len cap sz => if p id then .undef else .row id off len cap sz
  | .opt c x => .opt c (x.re p g)
  | .undef => .undef
  | .v x => .v x
  | .cptr l => .cptr l
  | .clo f l => .clo f l
def reL (p : Nat → Bool) (g : Tok → Option Tok) : List AV → List AV
  | [] => []
  | x :: l => x.re p g :: reL p g l
end

mutual
theorem Rep.re {m : Mem} {p : Nat → Bool} {g : Tok → Option Tok} : ∀ {bl hh bl' hh' x v}, (∀ id, p id = false → ∀ b, bl id = some b → bl' id = some b) → (∀ k k', g k = some k' → ∀ s, hh k = some s → hh' k' = some s) → Rep m bl hh x v → Rep m bl' hh' (x.re p g) v
  | _, _, _, _, _, _, _, _, .undef => by simp only [AV.re]; exact .undef
  | _, _, _, _, _, _, _, _, .v => by simp only [AV.re]; exact .v
  | _, _, _, _, _, _, hb, hk, .agg h h1 => by simp only [AV.re]; exact .agg (h.re hb hk) h1
  | _, _, _, _, _, _, hb, hk, .tup h => by simp only [AV.re]; exact .tup (h.re hb hk)
  | _, _, _, _, _, _, hb, hk, .slnil (tk := tk) => by
    cases tk with
    | none => simp only [AV.re]; exact .slnil
    | some k => simp only [AV.re]; exact .slnil
  | _, _, _, _, _, _, hb, hk, .sl (tk := tk) h1 h2 h3 h4 h5 h6 h7 => by
    cases tk with
    | none => simp only [AV.re]; exact .sl h1 h2 h3 h4 h5 h6 (by simp)
    | some k =>
      simp only [AV.re]
      refine .sl h1 h2 h3 h4 h5 h6 ?_
      intro k' e
      rcases h7 k rfl with h | ⟨h, h'⟩
      · exact .inl h
      · exact .inr ⟨h, hk k k' e _ h'⟩
  | _, _, _, _, _, _, hb, hk, .cptr h1 h2 h3 => by simp only [AV.re]; exact .cptr h1 h2 h3
  | _, _, _, _, _, _, hb, hk, .clo h => by simp only [AV.re]; exact .clo h
  | _, _, _, _, _, _, hb, hk, .ptr (id := id) h => by
    simp only [AV.re]; split
    · exact .undef
    · rename_i hp; exact .ptr (hb id (by simpa using hp) _ h)
  | _, _, _, _, _, _, hb, hk, .row (id := id) h h2 => by
    simp only [AV.re]; split
    · exact .undef
    · rename_i hp; exact .row (hb id (by simpa using hp) _ h) h2
  | _, _, _, _, _, _, hb, hk, .opt h h2 => by simp only [AV.re]; exact .opt (fun c => (h c).re hb hk) h2
theorem Reps.re {m : Mem} {p : Nat → Bool} {g : Tok → Option Tok} : ∀ {bl hh bl' hh' l vs}, (∀ id, p id = false → ∀ b, bl id = some b → bl' id = some b) → (∀ k k', g k = some k' → ∀ s, hh k = some s → hh' k' = some s) → Reps m bl hh l vs → Reps m bl' hh' (reL p g l) vs
  | _, _, _, _, _, _, _, _, .nil => by simp only [reL]; exact .nil
  | _, _, _, _, _, _, hb, hk, .cons h t => by simp only [reL]; exact .cons (h.re hb hk) (t.re hb hk)
end

/-- All names and tokens go. -/
abbrev AV.bare (x : AV) : AV := x.re (fun _ => true) (fun _ => none)
abbrev bareL (l : List AV) : List AV := reL (fun _ => true) (fun _ => none) l
theorem Rep.bare {m bl hh bl' hh' x v} (h : Rep m bl hh x v) : Rep m bl' hh' x.bare v := h.re (by simp) (by simp)
theorem Reps.bare {m bl hh bl' hh' x v} (h : Reps m bl hh x v) : Reps m bl' hh' (bareL x) v := h.re (by simp) (by simp)

/-- The names and tokens of the list go. -/
abbrev AV.purge (ds : List Nat) (x : AV) : AV := x.re (fun id => ds.contains id) (fun k => if ds.contains k.1 then none else some k)
abbrev purgeL (ds : List Nat) (l : List AV) : List AV := reL (fun id => ds.contains id) (fun k => if ds.contains k.1 then none else some k) l
/-- The tokens are named after d. -/
abbrev AV.retok (d : Nat) (x : AV) : AV := x.re (fun _ => false) (fun k => some (d, k.2))
def idxTok (k : Tok) : List Tok → Option Nat
  | [] => none
  | x :: r => if x.1 = k.1 then (if x.2 = k.2 then some 0 else (idxTok k r).map (· + 1)) else (idxTok k r).map (· + 1)
theorem idxTok_get {k : Tok} : ∀ {l : List Tok} {j : Nat}, idxTok k l = some j → l[j]? = some k
  | [], j, h => by simp [idxTok] at h
  | x :: r, j, h => by
    have step : (idxTok k r).map (· + 1) = some j → (x :: r)[j]? = some k := by
      intro h
      obtain ⟨i, hi, rfl⟩ := Option.map_eq_some_iff.1 h
      simpa using idxTok_get hi
    simp only [idxTok] at h
    split at h
    · split at h
      · simp at h; subst h; simp; exact Prod.ext ‹_› ‹_›
      · exact step h
    · exact step h
/-- The tokens ks go out as the result's own. -/
abbrev AV.expo (ks : List Tok) (x : AV) : AV := x.re (fun _ => true) (fun k => (idxTok k ks).map fun j => (0, j))

mutual
/-- Bears no name and no token. -/
def AV.isBare : AV → Bool
  | .agg l => allBare l
  | .tup l => allBare l
  | .sl none _ _ => true
  | .sl (some _) _ _ => false
  | .ptr _ _ => false
  | .row _ _ _ _ _ => false
  | .opt _ x => x.isBare
  | .undef => true
  | .v _ => true
  | .cptr _ => true
  | .clo _ _ => true
def allBare : List AV → Bool
  | [] => true
  | x :: l => x.isBare && allBare l
end
mutual
theorem bare_of_isBare {p : Nat → Bool} {g : Tok → Option Tok} : ∀ {x : AV}, x.isBare = true → x.re p g = x
  | .agg l, h => by simp only [AV.re]; rw [bareL_of_allBare (by simpa [AV.isBare] using h)]
  | .tup l, h => by simp only [AV.re]; rw [bareL_of_allBare (by simpa [AV.isBare] using h)]
  | .sl none _ _, _ => by simp only [AV.re]
  | .sl (some _) _ _, h => by simp [AV.isBare] at h
  | .ptr _ _, h => by simp [AV.isBare] at h
  | .row _ _ _ _ _, h => by simp [AV.isBare] at h
  | .opt _ x, h => by simp only [AV.re]; rw [bare_of_isBare (by simpa [AV.isBare] using h)]
  | .undef, _ => by simp only [AV.re]
  | .v _, _ => by simp only [AV.re]
  | .cptr _, _ => by simp only [AV.re]
  | .clo _ _, _ => by simp only [AV.re]
theorem bareL_of_allBare {p : Nat → Bool} {g : Tok → Option Tok} : ∀ {l : List AV}, allBare l = true → reL p g l = l
  | [], _ => by simp only [reL]
  | x :: l, h => by
    simp only [allBare, Bool.and_eq_true] at h
    simp only [reL]
    rw [bare_of_isBare h.1, bareL_of_allBare h.2]
end
theorem allBare_append : ∀ {l l' : List AV}, allBare l = true → allBare l' = true → allBare (l ++ l') = true
  | [], _, _, h => h
  | x :: l, l', h, h' => by
    simp only [allBare, Bool.and_eq_true] at h
    simp only [List.cons_append, allBare, Bool.and_eq_true]
    exact ⟨h.1, allBare_append h.2 h'⟩

/-- Values that bear no name and no token: args and results of pure calls' parts. -/
theorem Rep.widen {m : Mem} : ∀ {bl hh bl' hh' x v}, (∀ id b, bl id = some b → bl' id = some b) → (∀ k s, hh k = some s → hh' k = some s) → Rep m bl hh x v → Rep m bl' hh' x v := by
  intro bl hh bl' hh' x v hb hk h
  refine Rep.rec (motive_1 := fun bl hh x v _ => ∀ bl' hh', (∀ id b, bl id = some b → bl' id = some b) → (∀ k s, hh k = some s → hh' k = some s) → Rep m bl' hh' x v)
    (motive_2 := fun bl hh x v _ => ∀ bl' hh', (∀ id b, bl id = some b → bl' id = some b) → (∀ k s, hh k = some s → hh' k = some s) → Reps m bl' hh' x v)
    ?_ ?_ ?_ ?_ ?_ ?_ ?_ ?_ ?_ ?_ ?_ ?_ ?_ h bl' hh' hb hk
  · intros; exact .undef
  · intros; exact .v
  · intro _ _ _ _ _ h1 ih _ _ hb hk; exact .agg (ih _ _ hb hk) h1
  · intro _ _ _ _ _ ih _ _ hb hk; exact .tup (ih _ _ hb hk)
  · intros; exact .slnil
  · intro _ _ _ _ _ _ _ _ h1 h2 h3 h4 h5 h6 h7 _ _ _ hb hk
    refine .sl h1 h2 h3 h4 h5 h6 ?_
    intro k e
    rcases h7 k e with h | ⟨h, h'⟩
    · exact .inl h
    · exact .inr ⟨h, hk _ _ h'⟩
  · intro _ _ _ _ _ _ h1 h2 h3 _ _ _ hb hk; exact .cptr h1 h2 h3
  · intro _ _ _ _ _ h _ _ _ _ _; exact .clo h
  · intro _ _ _ _ _ h _ _ hb hk; exact .ptr (hb _ _ h)
  · intro _ _ _ _ _ _ _ _ h h2 _ _ hb hk; exact .row (hb _ _ h) h2
  · intro _ _ _ _ _ _ h2 ih _ _ hb hk; exact .opt (fun c => ih c _ _ hb hk) h2
  · intros; exact .nil
  · intro _ _ _ _ _ _ _ _ ih1 ih2 _ _ hb hk; exact .cons (ih1 _ _ hb hk) (ih2 _ _ hb hk)

theorem Reps.widen {m : Mem} {bl hh bl' hh'} (hb : ∀ id b, bl id = some b → bl' id = some b) (hk : ∀ k s, hh k = some s → hh' k = some s) : ∀ {l vs}, Reps m bl hh l vs → Reps m bl' hh' l vs
  | _, _, .nil => .nil
  | _, _, .cons h t => .cons (h.widen hb hk) (t.widen hb hk)

/-- Values that stand in cells. -/
def AV.solid : AV → Bool
  | .agg _ => true
  | .v x => oneCell x
  | .sl _ _ _ => true
  | .cptr _ => true
  | .clo _ _ => true
  | .ptr _ _ => true
  | .row _ _ _ _ _ => true
  | _ => false

theorem Rep.cells {m bl hh x v} (h : Rep m bl hh x v) (hs : x.solid = true) : Reps m bl hh x.cells v.cells.toList ∧ (∀ c ∈ v.cells.toList, oneCell c = true) := by
  cases h with
  | undef => simp [AV.solid] at hs
  | v =>
    simp only [AV.solid] at hs
    have : v.cells = #[v] := by cases v <;> first | rfl | simp [oneCell, Value.oneCell'] at hs
    rw [this]
    exact ⟨.cons .v .nil, by simpa using hs⟩
  | agg h1 h2 => exact ⟨by simpa [AV.cells, Value.cells] using h1, by simpa [Value.cells] using h2⟩
  | tup => simp [AV.solid] at hs
  | slnil => exact ⟨.cons .slnil .nil, by simp [Value.cells, oneCell, Value.oneCell']⟩
  | sl h1 h2 h3 h4 h5 h6 h7 => exact ⟨.cons (.sl h1 h2 h3 h4 h5 h6 h7) .nil, by simp [Value.cells, oneCell, Value.oneCell']⟩
  | cptr h1 h2 h3 => exact ⟨.cons (.cptr h1 h2 h3) .nil, by simp [Value.cells, oneCell, Value.oneCell']⟩
  | clo h => exact ⟨.cons (.clo h) .nil, by simp [Value.cells, oneCell, Value.oneCell']⟩
  | ptr h => exact ⟨.cons (.ptr h) .nil, by simp [Value.cells, oneCell, Value.oneCell']⟩
  | row h h2 => exact ⟨.cons (.row h h2) .nil, by simp [Value.cells, oneCell, Value.oneCell']⟩
  | opt => simp [AV.solid] at hs

/-- The immutable memory is the world's. -/
def Imm (m : Mem) (w : World) : Prop := ∀ b o v, m b o = some v → w.cell? ⟨b, o, none⟩ = some v

theorem Imm.below {m : Mem} {w w' : World} (h : Imm m w) (hb : Below w.heap.size w w') : Imm m w' := by
  intro b o v e
  have hc := h b o v e
  have hlt : b < w.heap.size := by
    rcases Nat.lt_or_ge b w.heap.size with h | h
    · exact h
    · simp [World.cell?, Array.getElem?_eq_none h] at hc
  rw [hb.cell (p := ⟨b, o, none⟩) hlt]
  exact hc

theorem Imm.lt {m : Mem} {w : World} (h : Imm m w) {b o v} (e : m b o = some v) : b < w.heap.size := by
  have hc := h b o v e
  rcases Nat.lt_or_ge b w.heap.size with h | h
  · exact h
  · simp [World.cell?, Array.getElem?_eq_none h] at hc

end Go.Cx
