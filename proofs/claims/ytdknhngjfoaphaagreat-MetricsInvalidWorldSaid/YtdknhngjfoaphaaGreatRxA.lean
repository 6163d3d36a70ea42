/-
  Abstract values and what they stand for in memory. No conditions.
-/
import Derived.WalkKit
set_option linter.all false
namespace Go.Rx
open Go.RowKit

/-- Abstract values: scalars; structs and arrays as flat lists of cells; tuples; slices as immutable lists of elements (c: the capacity is the length); a pointer into immutable
    memory; a closure; a pointer into a block of the call's own; a slice of such a block (mc: it has room for as many); the slice of all that is known of such a block; a value that counts only under a condition; a value in an interface. -/
inductive AV where
  | undef
  | v (x : Value)
  | agg (l : List AV)
  | tup (l : List AV)
  | sl (c : Bool) (sz : Nat) (l : List AV)
  | cptr (l : List AV)
  | clo (f : Nat) (l : List AV)
  | ptr (id off : Nat)
  | row (id off len mc sz : Nat)
  | rw (id sz : Nat)
  | opt (c : Bool) (x : AV)
  | ifc (t : Nat) (x : AV)
  deriving Inhabited

def AV.cells : AV → List AV
  | .agg l => l
  | x => [x]

/-- Immutable memory: block, offset. -/
abbrev Mem := Nat → Nat → Option Value
/-- What an own block's name stands for: no block, where nothing is in it; a block, with how many cells it has and how many of them are known. -/
inductive Bnd where
  | nil
  | blk (b : Nat) (n : Nat × Nat)
abbrev Names := Nat → Option Bnd
def noNames : Names := fun _ => none
/-- May the value stand in one cell? -/
abbrev oneCell (v : Value) : Bool := v.oneCell'

mutual
inductive Rep (m : Mem) : Names → AV → Value → Prop
  | undef {bl x} : Rep m bl .undef x
  | v {bl x} : Rep m bl (.v x) x
  | agg {bl l cs} : Reps m bl l cs → (∀ c ∈ cs, oneCell c = true) → Rep m bl (.agg l) (.agg cs.toArray)
  | tup {bl l cs} : Reps m bl l cs → Rep m bl (.tup l) (.tuple cs.toArray)
  | slnil {bl c sz} : Rep m bl (.sl c sz []) (.slice none 0 0)
  | sl {bl c sz l a cap cs} : (∀ e ∈ l, e.cells.length = sz) → Reps m noNames (l.flatMap AV.cells) cs → (∀ c ∈ cs, oneCell c = true) →
      (0 < cs.length → a.spot = none) → (∀ j v, cs[j]? = some v → m a.block (a.off + j) = some v) → l.length ≤ cap → (c = true → cap = l.length) → Rep m bl (.sl c sz l) (.slice (some a) l.length cap)
  | cptr {bl l b o cs} : Reps m noNames l cs → (∀ c ∈ cs, oneCell c = true) → (∀ j v, cs[j]? = some v → m b (o + j) = some v) → Rep m bl (.cptr l) (.pointer (some ⟨b, o, none⟩))
  | clo {bl f l cs} : Reps m bl l cs → Rep m bl (.clo f l) (.func (.func f) #[] cs.toArray)
  | ptr {bl id off b n} : bl id = some (.blk b n) → Rep m bl (.ptr id off) (.pointer (some ⟨b, off, none⟩))
  | rownil {bl id off sz ad} : Rep m bl (.row id off 0 0 sz) (.slice ad 0 0)
  | row {bl id off len mc sz b n cap} : bl id = some (.blk b n) → len ≤ mc → mc ≤ cap → off + cap * sz ≤ n.1 → Rep m bl (.row id off len mc sz) (.slice (some ⟨b, off, none⟩) len cap)
  | rwnil {bl id sz ad} : bl id = some .nil → Rep m bl (.rw id sz) (.slice ad 0 0)
  | rw {bl id sz b n cap len} : bl id = some (.blk b n) → len * sz = n.2 → len ≤ cap → cap * sz ≤ n.1 → Rep m bl (.rw id sz) (.slice (some ⟨b, 0, none⟩) len cap)
  | opt {bl c x v} : (c = true → Rep m bl x v) → (c = false → v = undef) → Rep m bl (.opt c x) v
  | ifc {bl t x v} : Rep m bl x v → Rep m bl (.ifc t x) (.iface t v)
inductive Reps (m : Mem) : Names → List AV → List Value → Prop
  | nil {bl} : Reps m bl [] []
  | cons {bl x l v vs} : Rep m bl x v → Reps m bl l vs → Reps m bl (x :: l) (v :: vs)
end

def Mem.le (m m' : Mem) : Prop := ∀ b o v, m b o = some v → m' b o = some v
theorem Mem.le.refl (m : Mem) : Mem.le m m := fun _ _ _ h => h
theorem Mem.le.trans {a b c : Mem} (h : Mem.le a b) (k : Mem.le b c) : Mem.le a c := fun _ _ _ e => k _ _ _ (h _ _ _ e)

mutual
theorem Rep.mono {m m' : Mem} (hm : Mem.le m m') : ∀ {bl x v}, Rep m bl x v → Rep m' bl x v
  | _, _, _, .undef => .undef
  | _, _, _, .v => .v
  | _, _, _, .agg h h1 => .agg (h.mono hm) h1
  | _, _, _, .tup h => .tup (h.mono hm)
  | _, _, _, .slnil => .slnil
  | _, _, _, .sl h1 h2 h3 h4 h5 h6 h7 => .sl h1 (h2.mono hm) h3 h4 (fun j v e => hm _ _ _ (h5 j v e)) h6 h7
  | _, _, _, .cptr h1 h2 h3 => .cptr (h1.mono hm) h2 (fun j v e => hm _ _ _ (h3 j v e))
  | _, _, _, .clo h => .clo (h.mono hm)
  | _, _, _, .ptr h => .ptr h
  | _, _, _, .rownil => .rownil
  | _, _, _, .row h h2 h3 h4 => .row h h2 h3 h4
  | _, _, _, .rwnil h => .rwnil h
  | _, _, _, .rw h h2 h3 h4 => .rw h h2 h3 h4
  | _, _, _, .opt h h2 => .opt (fun c => (h c).mono hm) h2
  | _, _, _, .ifc h => .ifc (h.mono hm)
theorem Reps.mono {m m' : Mem} (hm : Mem.le m m') : ∀ {bl l vs}, Reps m bl l vs → Reps m' bl l vs
  | _, _, _, .nil => .nil
  | _, _, _, .cons h t => .cons (h.mono hm) (t.mono hm)
end

theorem Reps.length {m bl} : ∀ {l vs}, Reps m bl l vs → l.length = vs.length
  | _, _, .nil => rfl
  | _, _, .cons _ t => by simp [t.length]
theorem Reps.append {m bl} : ∀ {l vs l' vs'}, Reps m bl l vs → Reps m bl l' vs' → Reps m bl (l ++ l') (vs ++ vs')
  | _, _, _, _, .nil, h => h
  | _, _, _, _, .cons h t, k => .cons h (t.append k)
theorem Reps.get {m bl} : ∀ {l vs}, Reps m bl l vs → ∀ (i : Nat) (x : AV), l[i]? = some x → ∃ v, vs[i]? = some v ∧ Rep m bl x v
  | _, _, .nil, i, x, h => by simp at h
  | _, _, .cons h t, 0, x, e => by simp at e; subst e; exact ⟨_, rfl, h⟩
  | _, _, .cons h t, i + 1, x, e => by simpa using t.get i x (by simpa using e)
theorem Reps.take {m bl} : ∀ {l vs}, Reps m bl l vs → ∀ n, Reps m bl (l.take n) (vs.take n)
  | _, _, h, 0 => by simp; exact .nil
  | _, _, .nil, n + 1 => by simp; exact .nil
  | _, _, .cons h t, n + 1 => by simpa using .cons h (t.take n)
theorem Reps.drop {m bl} : ∀ {l vs}, Reps m bl l vs → ∀ n, Reps m bl (l.drop n) (vs.drop n)
  | _, _, h, 0 => by simpa using h
  | _, _, .nil, n + 1 => by simp; exact .nil
  | _, _, .cons h t, n + 1 => by simpa using t.drop n
theorem Reps.set {m bl} : ∀ {l vs}, Reps m bl l vs → ∀ (i : Nat) {x v}, Rep m bl x v → Reps m bl (l.set i x) (vs.set i v)
  | _, _, .nil, i, x, v, h => by simp; exact .nil
  | _, _, .cons h t, 0, x, v, e => by simpa using .cons e t
  | _, _, .cons h t, i + 1, x, v, e => by simpa using .cons h (t.set i e)

/- names are renamed or go. -/
mutual
def AV.re (q : Nat → Option Nat) : AV → AV
  | .agg l => .agg (reL q l)
  | .tup l => .tup (reL q l)
  | .clo f l => .clo f (reL q l)
  | .ptr id off => match q id with | some id' => .ptr id' off | none => .undef
  | .row id off len mc sz => match q id with | some id' => .row id' off len mc sz | none => .undef
  | .rw id sz => match q id with | some id' => .rw id' sz | none => .undef
  | .opt c x => .opt c (x.re q)
  | .ifc t x => .ifc t (x.re q)
  | .undef => .undef
  | .v x => .v x
  | .sl c sz l => .sl c sz l
  | .cptr l => .cptr l
def reL (q : Nat → Option Nat) : List AV → List AV
  | [] => []
  | x :: l => x.re q :: reL q l
end

mutual
theorem Rep.re {m : Mem} {q : Nat → Option Nat} : ∀ {bl bl' x v}, (∀ id id', q id = some id' → ∀ b, bl id = some b → bl' id' = some b) → Rep m bl x v → Rep m bl' (x.re q) v
  | _, _, _, _, _, .undef => by simp only [AV.re]; exact .undef
  | _, _, _, _, _, .v => by simp only [AV.re]; exact .v
  | _, _, _, _, hb, .agg h h1 => by simp only [AV.re]; exact .agg (h.re hb) h1
  | _, _, _, _, hb, .tup h => by simp only [AV.re]; exact .tup (h.re hb)
  | _, _, _, _, hb, .slnil => by simp only [AV.re]; exact .slnil
  | _, _, _, _, hb, .sl h1 h2 h3 h4 h5 h6 h7 => by simp only [AV.re]; exact .sl h1 h2 h3 h4 h5 h6 h7
  | _, _, _, _, hb, .cptr h1 h2 h3 => by simp only [AV.re]; exact .cptr h1 h2 h3
  | _, _, _, _, hb, .clo h => by simp only [AV.re]; exact .clo (h.re hb)
  | _, _, _, _, hb, .ptr (id := id) h => by
    simp only [AV.re]; split
    · exact .ptr (hb id _ ‹_› _ h)
    · exact .undef
  | _, _, _, _, hb, .rownil => by
    simp only [AV.re]; split
    · exact .rownil
    · exact .undef
  | _, _, _, _, hb, .row (id := id) h h2 h3 h4 => by
    simp only [AV.re]; split
    · exact .row (hb id _ ‹_› _ h) h2 h3 h4
    · exact .undef
  | _, _, _, _, hb, .rwnil (id := id) h => by
    simp only [AV.re]; split
    · exact .rwnil (hb id _ ‹_› _ h)
    · exact .undef
  | _, _, _, _, hb, .rw (id := id) h h2 h3 h4 => by
    simp only [AV.re]; split
    · exact .rw (hb id _ ‹_› _ h) h2 h3 h4
    · exact .undef
  | _, _, _, _, hb, .opt h h2 => by simp only [AV.re]; exact .opt (fun c => (h c).re hb) h2
  | _, _, _, _, hb, .ifc h => by simp only [AV.re]; exact .ifc (h.re hb)
theorem Reps.re {m : Mem} {q : Nat → Option Nat} : ∀ {bl bl' l vs}, (∀ id id', q id = some id' → ∀ b, bl id = some b → bl' id' = some b) → Reps m bl l vs → Reps m bl' (reL q l) vs
  | _, _, _, _, _, .nil => by simp only [reL]; exact .nil
  | _, _, _, _, hb, .cons h t => by simp only [reL]; exact .cons (h.re hb) (t.re hb)
end

/-- All names go. -/
abbrev AV.bare (x : AV) : AV := x.re (fun _ => none)
abbrev bareL (l : List AV) : List AV := reL (fun _ => none) l
theorem Rep.bare {m bl bl' x v} (h : Rep m bl x v) : Rep m bl' x.bare v := h.re (by simp)
theorem Reps.bare {m bl bl' x v} (h : Reps m bl x v) : Reps m bl' (bareL x) v := h.re (by simp)

mutual
/-- Bears only names that the test lets through. -/
def AV.clean (q : Nat → Bool) : AV → Bool
  | .agg l => cleanL q l
  | .tup l => cleanL q l
  | .clo _ l => cleanL q l
  | .ptr id _ => q id
  | .row id _ _ _ _ => q id
  | .rw id _ => q id
  | .opt _ x => x.clean q
  | .ifc _ x => x.clean q
  | .undef => true
  | .v _ => true
  | .sl _ _ _ => true
  | .cptr _ => true
def cleanL (q : Nat → Bool) : List AV → Bool
  | [] => true
  | x :: l => x.clean q && cleanL q l
end
mutual
theorem re_of_clean {p : Nat → Bool} {q : Nat → Option Nat} (hq : ∀ id, p id = true → q id = some id) : ∀ {x : AV}, x.clean p = true → x.re q = x
  | .agg l, h => by simp only [AV.re]; rw [reL_of_clean hq (by simpa [AV.clean] using h)]
  | .tup l, h => by simp only [AV.re]; rw [reL_of_clean hq (by simpa [AV.clean] using h)]
  | .clo f l, h => by simp only [AV.re]; rw [reL_of_clean hq (by simpa [AV.clean] using h)]
  | .ptr id off, h => by simp only [AV.re, hq id (by simpa [AV.clean] using h)]
  | .row id off _ _ _, h => by simp only [AV.re, hq id (by simpa [AV.clean] using h)]
  | .rw id _, h => by simp only [AV.re, hq id (by simpa [AV.clean] using h)]
  | .opt _ x, h => by simp only [AV.re]; rw [re_of_clean hq (by simpa [AV.clean] using h)]
  | .ifc _ x, h => by simp only [AV.re]; rw [re_of_clean hq (by simpa [AV.clean] using h)]
  | .undef, _ => by simp only [AV.re]
  | .v _, _ => by simp only [AV.re]
  | .sl _ _ _, _ => by simp only [AV.re]
  | .cptr _, _ => by simp only [AV.re]
theorem reL_of_clean {p : Nat → Bool} {q : Nat → Option Nat} (hq : ∀ id, p id = true → q id = some id) : ∀ {l : List AV}, cleanL p l = true → reL q l = l
  | [], _ => by simp only [reL]
  | x :: l, h => by
    simp only [cleanL, Bool.and_eq_true] at h
    simp only [reL]
    rw [re_of_clean hq h.1, reL_of_clean hq h.2]
end
/-- Bears no name. -/
abbrev AV.isBare (x : AV) : Bool := x.clean (fun _ => false)
abbrev allBare (l : List AV) : Bool := cleanL (fun _ => false) l
theorem bareL_of {q : Nat → Option Nat} {l : List AV} (h : allBare l = true) : reL q l = l := reL_of_clean (by simp) h
theorem bare_of {q : Nat → Option Nat} {x : AV} (h : x.isBare = true) : x.re q = x := re_of_clean (by simp) h
theorem cleanL_append {q : Nat → Bool} : ∀ {l l' : List AV}, cleanL q (l ++ l') = (cleanL q l && cleanL q l')
  | [], _ => by simp [cleanL]
  | x :: l, l' => by simp [cleanL, cleanL_append (l := l), Bool.and_assoc]
theorem cleanL_of {q : Nat → Bool} : ∀ {l : List AV}, (∀ x ∈ l, x.clean q = true) → cleanL q l = true
  | [], _ => by simp [cleanL]
  | x :: l, h => by simp [cleanL, h x (by simp), cleanL_of (l := l) fun y hy => h y (by simp [hy])]
theorem Rep.widen {m : Mem} {bl bl' x v} (hb : ∀ id b, bl id = some b → bl' id = some b) (h : Rep m bl x v) : Rep m bl' x v := by
  have h2 := h.re (q := some) (bl' := bl') (fun id id' e b hb' => by cases e; exact hb _ _ hb')
  rwa [re_of_clean (p := fun _ => true) (fun _ _ => rfl)] at h2
  exact ((show ∀ x : AV, x.clean (fun _ => true) = true from fun x => by
    refine AV.rec (motive_1 := fun x => x.clean (fun _ => true) = true) (motive_2 := fun l => cleanL (fun _ => true) l = true) ?_ ?_ ?_ ?_ ?_ ?_ ?_ ?_ ?_ ?_ ?_ ?_ ?_ ?_ x <;> intros <;> simp_all [AV.clean, cleanL]) _)
theorem Reps.widen {m : Mem} {bl bl'} (hb : ∀ id b, bl id = some b → bl' id = some b) : ∀ {l vs}, Reps m bl l vs → Reps m bl' l vs
  | _, _, .nil => .nil
  | _, _, .cons h t => .cons (h.widen hb) (t.widen hb)

/-- Values that stand in cells. -/
def AV.solid : AV → Bool
  | .agg _ => true
  | .v x => oneCell x
  | .sl _ _ _ => true
  | .cptr _ => true
  | .clo _ _ => true
  | .ptr _ _ => true
  | .row _ _ _ _ _ => true
  | .rw _ _ => true
  | .ifc _ _ => true
  | _ => false

theorem Rep.cells {m bl x v} (h : Rep m bl x v) (hs : x.solid = true) : Reps m bl x.cells v.cells.toList ∧ (∀ c ∈ v.cells.toList, oneCell c = true) := by
  cases h with
  | undef => simp [AV.solid] at hs
  | v =>
    simp only [AV.solid] at hs
    have : v.cells = #[v] := by cases v <;> first | rfl | simp [oneCell, Value.oneCell'] at hs
    rw [this]
    exact ⟨.cons .v .nil, by simpa using hs⟩
  | agg h1 h2 => exact ⟨by simpa [AV.cells, Value.cells] using h1, by simpa [Value.cells] using h2⟩
  | tup => simp [AV.solid] at hs
  | slnil => exact ⟨.cons .slnil .nil, by simp [Value.cells, oneCell, Value.oneCell']⟩
  | sl h1 h2 h3 h4 h5 h6 h7 => exact ⟨.cons (.sl h1 h2 h3 h4 h5 h6 h7) .nil, by simp [Value.cells, oneCell, Value.oneCell']⟩
  | cptr h1 h2 h3 => exact ⟨.cons (.cptr h1 h2 h3) .nil, by simp [Value.cells, oneCell, Value.oneCell']⟩
  | clo h => exact ⟨.cons (.clo h) .nil, by simp [Value.cells, oneCell, Value.oneCell']⟩
  | ptr h => exact ⟨.cons (.ptr h) .nil, by simp [Value.cells, oneCell, Value.oneCell']⟩
  | rownil => exact ⟨.cons .rownil .nil, by simp [Value.cells, oneCell, Value.oneCell']⟩
  | row h h2 h3 h4 => exact ⟨.cons (.row h h2 h3 h4) .nil, by simp [Value.cells, oneCell, Value.oneCell']⟩
  | rwnil h => exact ⟨.cons (.rwnil h) .nil, by simp [Value.cells, oneCell, Value.oneCell']⟩
  | rw h h2 h3 h4 => exact ⟨.cons (.rw h h2 h3 h4) .nil, by simp [Value.cells, oneCell, Value.oneCell']⟩
  | ifc h => exact ⟨.cons (.ifc h) .nil, by simp [Value.cells, oneCell, Value.oneCell']⟩
  | opt => simp [AV.solid] at hs

/-- The immutable memory is the world's. -/
def Imm (m : Mem) (w : World) : Prop := ∀ b o v, m b o = some v → w.cell? ⟨b, o, none⟩ = some v
theorem Imm.lt {m : Mem} {w : World} (h : Imm m w) {b o v} (e : m b o = some v) : b < w.heap.size := by
  have hc := h b o v e
  rcases Nat.lt_or_ge b w.heap.size with h | h
  · exact h
  · simp [World.cell?, Array.getElem?_eq_none h] at hc
theorem Imm.below {m : Mem} {w w' : World} (h : Imm m w) (hb : Below w.heap.size w w') : Imm m w' := by
  intro b o v e
  rw [hb.cell (p := ⟨b, o, none⟩) (h.lt e)]
  exact h b o v e
end Go.Rx
