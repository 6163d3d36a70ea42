/-
  Typed symbolic values: what a checked run of the code computes with. No conditions.
-/
import Derived.Test.YtdknhngjfoaphaaGreatRxM
set_option linter.all false
namespace Go.Rx
open Go.RowKit

/-! a long chain of names: what mentions its end is unfolded before what does not (the kernel compares heights) -/
def hh0 : Unit := ()
def hh1 : Unit := hh0
def hh2 : Unit := hh1
def hh3 : Unit := hh2
def hh4 : Unit := hh3
def hh5 : Unit := hh4
def hh6 : Unit := hh5
def hh7 : Unit := hh6
def hh8 : Unit := hh7
def hh9 : Unit := hh8
def hh10 : Unit := hh9
def hh11 : Unit := hh10
def hh12 : Unit := hh11
def hh13 : Unit := hh12
def hh14 : Unit := hh13
def hh15 : Unit := hh14
def hh16 : Unit := hh15
def hh17 : Unit := hh16
def hh18 : Unit := hh17
def hh19 : Unit := hh18
def hh20 : Unit := hh19
def hh21 : Unit := hh20
def hh22 : Unit := hh21
def hh23 : Unit := hh22
def hh24 : Unit := hh23
def hh25 : Unit := hh24
def hh26 : Unit := hh25
def hh27 : Unit := hh26
def hh28 : Unit := hh27
def hh29 : Unit := hh28
def hh30 : Unit := hh29
def hh31 : Unit := hh30
def hh32 : Unit := hh31
def hh33 : Unit := hh32
def hh34 : Unit := hh33
def hh35 : Unit := hh34
def hh36 : Unit := hh35
def hh37 : Unit := hh36
def hh38 : Unit := hh37
def hh39 : Unit := hh38
def hh40 : Unit := hh39
def hh41 : Unit := hh40
def hh42 : Unit := hh41
def hh43 : Unit := hh42
def hh44 : Unit := hh43
def hh45 : Unit := hh44
def hh46 : Unit := hh45
def hh47 : Unit := hh46
def hh48 : Unit := hh47
def hh49 : Unit := hh48
def hh50 : Unit := hh49
def hh51 : Unit := hh50
def hh52 : Unit := hh51
def hh53 : Unit := hh52
def hh54 : Unit := hh53
def hh55 : Unit := hh54
def hh56 : Unit := hh55
def hh57 : Unit := hh56
def hh58 : Unit := hh57
def hh59 : Unit := hh58
def hh60 : Unit := hh59
def hh61 : Unit := hh60
def hh62 : Unit := hh61
def hh63 : Unit := hh62
def hh64 : Unit := hh63
def hh65 : Unit := hh64
def hh66 : Unit := hh65
def hh67 : Unit := hh66
def hh68 : Unit := hh67
def hh69 : Unit := hh68
def hh70 : Unit := hh69
def hh71 : Unit := hh70
def hh72 : Unit := hh71
def hh73 : Unit := hh72
def hh74 : Unit := hh73
def hh75 : Unit := hh74
def hh76 : Unit := hh75
def hh77 : Unit := hh76
def hh78 : Unit := hh77
def hh79 : Unit := hh78
def hh80 : Unit := hh79
def hh81 : Unit := hh80
def hh82 : Unit := hh81
def hh83 : Unit := hh82
def hh84 : Unit := hh83
def hh85 : Unit := hh84
def hh86 : Unit := hh85
def hh87 : Unit := hh86
def hh88 : Unit := hh87
def hh89 : Unit := hh88
def hh90 : Unit := hh89
def hh91 : Unit := hh90
def hh92 : Unit := hh91
def hh93 : Unit := hh92
def hh94 : Unit := hh93
def hh95 : Unit := hh94
def hh96 : Unit := hh95
def hh97 : Unit := hh96
def hh98 : Unit := hh97
def hh99 : Unit := hh98
def hh100 : Unit := hh99
def hh101 : Unit := hh100
def hh102 : Unit := hh101
def hh103 : Unit := hh102
def hh104 : Unit := hh103
def hh105 : Unit := hh104
def hh106 : Unit := hh105
def hh107 : Unit := hh106
def hh108 : Unit := hh107
def hh109 : Unit := hh108
def hh110 : Unit := hh109
def hh111 : Unit := hh110
def hh112 : Unit := hh111
def hh113 : Unit := hh112
def hh114 : Unit := hh113
def hh115 : Unit := hh114
def hh116 : Unit := hh115
def hh117 : Unit := hh116
def hh118 : Unit := hh117
def hh119 : Unit := hh118
def hh120 : Unit := hh119
/-! words of the plain forms -/
def Let {β X : Type} (v : β) (k : β → X) : X := k v
def Bind {α β : Type} (m : Option α) (k : α → Option β) : Option β := m.bind k
def Chk {α : Type} (c : Prop) [Decidable c] (k : Option α) : Option α := if c then k else none
/-- A loop. -/
def LOOP {V X : Type} (step : (V → Option X) → V → Option X) : Nat → V → Option X
  | 0, _ => none
  | n + 1, v => step (LOOP step n) v
/-- More rounds than any loop takes. -/
def fuel : Nat := 2 ^ 70
abbrev w64 (n : Int) : Int := IntKind.i64.wrap n
def ix {α : Type} [Inhabited α] (l : List α) (i : Int) : α := l.getD i.toNat default
def toByte (n : Int) : UInt8 := UInt8.ofNat (n % 256).toNat
def bAnd (k : IntKind) (a b : Int) : Int := k.wrap (BitVec.ofInt k.bits a &&& BitVec.ofInt k.bits b).toNat
def bOr (k : IntKind) (a b : Int) : Int := k.wrap (BitVec.ofInt k.bits a ||| BitVec.ofInt k.bits b).toNat
def bXor (k : IntKind) (a b : Int) : Int := k.wrap (BitVec.ofInt k.bits a ^^^ BitVec.ofInt k.bits b).toNat
def bShl (k : IntKind) (a b : Int) : Int := k.wrap (a * 2 ^ (min b.toNat k.bits))
def bShr (k : IntKind) (a b : Int) : Int := a.fdiv (2 ^ (min b.toNat k.bits))

/-- The types of a program that occur: what stands for them in plain Lean, how many cells they take, what a value is in memory. -/
structure Tb where
  P : Program
  Ix : Type
  dec : DecidableEq Ix
  T : Ix → Type
  sz : Ix → Nat
  el : (i : Ix) → T i → AV
  look : Nat → Option Ix
  /-- the index of byte -/
  byte : Option { i : Ix // ∃ h : T i = UInt8, sz i = 1 ∧ ∀ x, el i x = byteAV (cast h x) }

def Tup (tb : Tb) : List tb.Ix → Type
  | [] => Unit
  | [i] => tb.T i
  | i :: j :: r => tb.T i × Tup tb (j :: r)

section
variable {tb : Tb}
def tupAV : (rs : List tb.Ix) → Tup tb rs → List AV
  | [], _ => []
  | [i], x => [tb.el i x]
  | i :: j :: r, x => tb.el i x.1 :: tupAV (j :: r) x.2
def resAV (rs : List tb.Ix) (r : Tup tb rs) : AV := tupleOf (tupAV rs r)
def CloR (tb : Tb) (f : Nat) (caps : List AV) (ps rs : List tb.Ix) (g : Tup tb ps → Option (Tup tb rs)) : Prop :=
  (∀ (vs : Array Value) (w : World), (callFunc f vs).run tb.P w = .ok (.enter f vs) w) ∧ allBare caps = true ∧ ∀ a r, g a = some r → FnR tb.P f (tupAV ps a ++ caps) (resAV rs r) []
end
/-- A guard: slot, what it waits for, what it yields; the innermost first. -/
abbrev Gd := List (Nat × Bool × Bool)
def gc : Gd → Bool
  | [] => true
  | (_, w, t) :: G => match G with
    | [] => t == w
    | _ :: _ => gc G && (t == w)
def gc0 : Gd → Bool
  | [] => true
  | (_, w, t) :: G => gc0 G && (t == w)
theorem gc_eq : ∀ G, gc G = gc0 G
  | [] => rfl
  | [(_, w, t)] => by simp [gc, gc0]
  | (_, w, t) :: g :: G => by show (gc (g :: G) && _) = (gc0 (g :: G) && _); rw [gc_eq (g :: G)]

inductive SV (tb : Tb) : Type where
  | undef
  | i (k : IntKind) (n : Int)
  | b8 (c : UInt8)
  | bo (b : Bool)
  | st (s : List UInt8)
  | con (x : Value)
  | agg (l : List (SV tb))
  | tup (l : List (SV tb))
  | sl (c : Bool) (E : tb.Ix) (l : List (tb.T E))
  | em (E : tb.Ix)
  | cp (l : List (SV tb))
  | fn (f : Nat) (l : List (SV tb))
  | ptr (id off : Nat)
  | epr (id : Nat) (E : tb.Ix) (i : Int) (fo : Nat)
  | row (id : Nat) (E : tb.Ix) (off len mc : Nat)
  | rw (id : Nat) (E : tb.Ix)
  | opt (G : Gd) (x : SV tb)
  | cl (ps rs : List tb.Ix) (g : Tup tb ps → Option (Tup tb rs)) (f : Nat) (caps : List AV) (h : CloR tb f caps ps rs g)
  | ifc (t : Nat) (x : SV tb)

variable {tb : Tb}
mutual
def SV.av : SV tb → AV
  | .undef => .undef
  | .i k n => .v (.int k n)
  | .b8 c => byteAV c
  | .bo b => .v (.bool b)
  | .st s => .v (.string ⟨s.toArray⟩)
  | .con x => .v x
  | .agg l => .agg (avL l)
  | .tup l => .tup (avL l)
  | .sl c E l => .sl c (tb.sz E) (l.map (tb.el E))
  | .em E => .sl true (tb.sz E) []
  | .cp l => .cptr (avL l)
  | .fn f l => .clo f (avL l)
  | .ptr id off => .ptr id off
  | .epr id E i fo => .ptr id (i.toNat * tb.sz E + fo)
  | .row id E off len mc => .row id (off * tb.sz E) len mc (tb.sz E)
  | .rw id E => .rw id (tb.sz E)
  | .opt G x => .opt (gc G) x.av
  | .cl _ _ _ f caps _ => .clo f caps
  | .ifc t x => .ifc t x.av
def avL : List (SV tb) → List AV
  | [] => []
  | x :: l => x.av :: avL l
end
theorem avL_map : ∀ l : List (SV tb), avL l = l.map SV.av
  | [] => rfl
  | x :: l => by simp only [avL, avL_map l, List.map_cons]

/- names are renamed or go -/
mutual
def SV.re (q : Nat → Option Nat) : SV tb → SV tb
  | .undef => .undef
  | .i k n => .i k n
  | .b8 c => .b8 c
  | .bo b => .bo b
  | .st s => .st s
  | .con x => .con x
  | .agg l => .agg (sreL q l)
  | .tup l => .tup (sreL q l)
  | .sl c E l => .sl c E l
  | .em E => .em E
  | .cp l => .cp l
  | .fn f l => .fn f (sreL q l)
  | .ptr id off => match q id with | some j => .ptr j off | none => .undef
  | .epr id E i fo => match q id with | some j => .epr j E i fo | none => .undef
  | .row id E off len mc => match q id with | some j => .row j E off len mc | none => .undef
  | .rw id E => match q id with | some j => .rw j E | none => .undef
  | .opt G x => .opt G (x.re q)
  | .cl ps rs g f caps h => .cl ps rs g f caps h
  | .ifc t x => .ifc t (x.re q)
def sreL (q : Nat → Option Nat) : List (SV tb) → List (SV tb)
  | [] => []
  | x :: l => x.re q :: sreL q l
end
mutual
theorem SV.re_av {q : Nat → Option Nat} : ∀ x : SV tb, (x.re q).av = x.av.re q
  | .undef => rfl
  | .i _ _ => rfl
  | .b8 _ => rfl
  | .bo _ => rfl
  | .st _ => rfl
  | .con _ => rfl
  | .agg l => by simp only [SV.re, SV.av, AV.re, sreL_av l]
  | .tup l => by simp only [SV.re, SV.av, AV.re, sreL_av l]
  | .sl _ _ _ => rfl
  | .em _ => rfl
  | .cp _ => by simp only [SV.re, SV.av, AV.re]
  | .fn _ l => by simp only [SV.re, SV.av, AV.re, sreL_av l]
  | .ptr id off => by simp only [SV.re, SV.av, AV.re]; cases q id <;> rfl
  | .epr id E i fo => by simp only [SV.re, SV.av, AV.re]; cases q id <;> rfl
  | .row id E off len mc => by simp only [SV.re, SV.av, AV.re]; cases q id <;> rfl
  | .rw id E => by simp only [SV.re, SV.av, AV.re]; cases q id <;> rfl
  | .opt _ x => by simp only [SV.re, SV.av, AV.re, SV.re_av x]
  | .cl _ _ _ _ _ h => by simp only [SV.re, SV.av, AV.re]; rw [bareL_of h.2.1]
  | .ifc _ x => by simp only [SV.re, SV.av, AV.re, SV.re_av x]
theorem sreL_av {q : Nat → Option Nat} : ∀ l : List (SV tb), avL (sreL q l) = reL q (avL l)
  | [] => rfl
  | x :: l => by simp only [sreL, avL, reL, SV.re_av x, sreL_av l]
end

/-- What lies in an own block. -/
inductive SC (tb : Tb) : Type where
  | cells (l : List (SV tb))
  | arr (E : tb.Ix) (l : List (tb.T E))
  | iter (s : List UInt8) (p : Nat)
def elC (tb : Tb) (E : tb.Ix) (l : List (tb.T E)) : List AV := (l.map (tb.el E)).flatMap AV.cells
def SC.av : SC tb → ABlk
  | .cells l => .cells (avL l)
  | .arr E l => .cells (elC tb E l)
  | .iter s p => .iter ⟨s.toArray⟩ p
def SC.re (q : Nat → Option Nat) : SC tb → SC tb
  | .cells l => .cells (sreL q l)
  | .arr E l => .arr E l
  | .iter s p => .iter s p

/-! how plain values stand as symbolic ones -/

/-- A value's cells in memory, in plain data: of α. -/
structure Ac (α : Type) where
  n : Nat
  ca : α → List AV
/-- Its cells as symbolic values, and back. -/
structure Fc (tb : Tb) (α : Type) where
  cs : α → List (SV tb)
  pr : List (SV tb) → Option (α × List (SV tb))
/-- Is it the slice that is nil, or empty? -/
def SV.em0 : SV tb → Bool
  | .em _ => true
  | .con (.slice none 0 0) => true
  | _ => false
/-- A slice's cell stands as it was given. -/
structure SlCell (x y : SV tb) : Prop where
  sl : ∀ c E l, x = .sl c E l → y = .sl false E l
  em : x.em0 = true → ∃ E, y = .sl false E []
  sub : Sub x.av y.av
theorem SlCell.no {x y : SV tb} (h : ∀ c E l, x ≠ .sl c E l) (k : x.em0 = false) (hs : Sub x.av y.av) : SlCell x y := ⟨fun c E l e => absurd e (h c E l), fun e => (by rw [k] at e; cases e), hs⟩
structure FcOk {α : Type} (a : Ac α) (c : Fc tb α) : Prop where
  sl : ∀ l x r, c.pr l = some (x, r) → ∀ (j : Nat) y, j < a.n → l[j]? = some y → ∃ z, (c.cs x)[j]? = some z ∧ SlCell y z
  av : ∀ x, avL (c.cs x) = a.ca x
  len : ∀ x, (a.ca x).length = a.n
  one : ∀ x, ∀ y ∈ a.ca x, y.cells = [y] ∧ y.isBare = true ∧ y.solid = true
  pr : ∀ l x r, c.pr l = some (x, r) → ∃ l1, l = l1 ++ r ∧ l1.length = a.n ∧ SubL (avL l1) (a.ca x)

def aInt (k : IntKind) : Ac Int := ⟨1, fun n => [.v (.int k n)]⟩
def aBool : Ac Bool := ⟨1, fun b => [.v (.bool b)]⟩
def aSl {α : Type} (n : Nat) (el : α → AV) : Ac (List α) := ⟨1, fun l => [.sl false n (l.map el)]⟩
def aPair {α β : Type} (a : Ac α) (b : Ac β) : Ac (α × β) := ⟨a.n + b.n, fun p => a.ca p.1 ++ b.ca p.2⟩
def aIso {α β : Type} (g : β → α) (a : Ac α) : Ac β := ⟨a.n, fun x => a.ca (g x)⟩
/-- The value as one: a struct's cells together, a lone cell by itself. -/
def Ac.elA {α : Type} (a : Ac α) (x : α) : AV := .agg (a.ca x)
def Ac.el1 {α : Type} (a : Ac α) (x : α) : AV := (a.ca x).headD .undef

def fInt (k : IntKind) : Fc tb Int := ⟨fun n => [.i k n], fun
  | .i k' n :: r => if k' = k then some (n, r) else none
  | .con (.int k' n) :: r => if k' = k then some (n, r) else none
  | _ => none⟩
def fBool : Fc tb Bool := ⟨fun b => [.bo b], fun
  | .bo b :: r => some (b, r)
  | .con (.bool b) :: r => some (b, r)
  | _ => none⟩
def fSl (E : tb.Ix) : Fc tb (List (tb.T E)) := ⟨fun l => [.sl false E l], fun
  | .sl _ E' l :: r => match tb.dec E' E with | isTrue h => some (h ▸ l, r) | isFalse _ => none
  | .em E' :: r => match tb.dec E' E with | isTrue _ => some ([], r) | isFalse _ => none
  | .con (.slice none 0 0) :: r => some ([], r)
  | _ => none⟩
def fPair {α β : Type} (a : Fc tb α) (b : Fc tb β) : Fc tb (α × β) := ⟨fun p => a.cs p.1 ++ b.cs p.2, fun l => match a.pr l with | some (x, r) => (match b.pr r with | some (y, r') => some ((x, y), r') | none => none) | none => none⟩
def fIso {α β : Type} (f : α → β) (g : β → α) (a : Fc tb α) : Fc tb β := ⟨fun x => a.cs (g x), fun l => match a.pr l with | some (x, r) => some (f x, r) | none => none⟩

theorem avL_len : ∀ l : List (SV tb), (avL l).length = l.length
  | [] => rfl
  | x :: l => by simp only [avL, List.length_cons, avL_len l]
theorem okInt (k : IntKind) : FcOk (tb := tb) (aInt k) (fInt k) where
  sl l x r h j y hj hy := by
    unfold fInt at h
    simp only at h
    have hj0 : j = 0 := by simp [aInt] at hj; omega
    subst hj0
    split at h
    · split at h
      · rename_i hk; subst hk; cases h; simp at hy; subst hy; exact ⟨_, rfl, .no (by intro _ _ _ h; cases h) rfl (.refl _)⟩
      · cases h
    · split at h
      · rename_i hk; subst hk; cases h; simp at hy; subst hy; exact ⟨_, rfl, .no (by intro _ _ _ h; cases h) rfl (.refl _)⟩
      · cases h
    · cases h
  av _ := rfl
  len _ := rfl
  one x y hy := by simp [aInt] at hy; subst hy; exact ⟨rfl, rfl, rfl⟩
  pr l x r h := by
    unfold fInt at h
    simp only at h
    split at h
    · split at h
      · rename_i hk; subst hk; cases h; exact ⟨[_], rfl, rfl, .refl _⟩
      · cases h
    · split at h
      · rename_i hk; subst hk; cases h; exact ⟨[_], rfl, rfl, .refl _⟩
      · cases h
    · cases h
theorem toByte_toNat {n : Int} (h : 0 ≤ n ∧ n < 256) : ((toByte n).toNat : Int) = n := by
  unfold toByte
  rw [UInt8.toNat_ofNat']
  omega
theorem okBool : FcOk (tb := tb) aBool fBool where
  sl l x r h j y hj hy := by
    unfold fBool at h
    simp only at h
    have hj0 : j = 0 := by simp [aBool] at hj; omega
    subst hj0
    split at h
    · cases h; simp at hy; subst hy; exact ⟨_, rfl, .no (by intro _ _ _ h; cases h) rfl (.refl _)⟩
    · cases h; simp at hy; subst hy; exact ⟨_, rfl, .no (by intro _ _ _ h; cases h) rfl (.refl _)⟩
    · cases h
  av _ := rfl
  len _ := rfl
  one x y hy := by simp [aBool] at hy; subst hy; exact ⟨rfl, rfl, rfl⟩
  pr l x r h := by
    unfold fBool at h
    simp only at h
    split at h
    · cases h; exact ⟨[_], rfl, rfl, .refl _⟩
    · cases h; exact ⟨[_], rfl, rfl, .refl _⟩
    · cases h
theorem str_mk (s : ByteArray) : (⟨s.data.toList.toArray⟩ : ByteArray) = s := by cases s; simp
theorem okSl (E : tb.Ix) : FcOk (tb := tb) (aSl (tb.sz E) (tb.el E)) (fSl E) where
  sl l x r h j y hj hy := by
    unfold fSl at h
    simp only at h
    have hj0 : j = 0 := by simp [aSl] at hj; omega
    subst hj0
    split at h
    · split at h
      · rename_i hk _; subst hk; cases h
        simp at hy; subst hy
        exact ⟨_, rfl, ⟨(by rintro _ _ _ h; cases h; rfl), (by intro h; cases h), .cap⟩⟩
      · cases h
    · split at h
      · rename_i hk _; subst hk; cases h
        simp at hy; subst hy
        exact ⟨_, rfl, ⟨(by rintro _ _ _ h; cases h), (fun _ => ⟨_, rfl⟩), .cap⟩⟩
      · cases h
    · cases h
      simp at hy; subst hy
      exact ⟨_, rfl, ⟨(by rintro _ _ _ h; cases h), (fun _ => ⟨_, rfl⟩), .nil⟩⟩
    · cases h
  av _ := rfl
  len _ := rfl
  one x y hy := by simp [aSl] at hy; subst hy; exact ⟨rfl, rfl, rfl⟩
  pr l x r h := by
    unfold fSl at h
    simp only at h
    split at h
    · split at h
      · rename_i hk _; subst hk; cases h
        exact ⟨[_], rfl, rfl, .cons .cap (.refl _)⟩
      · cases h
    · split at h
      · rename_i hk _; subst hk; cases h
        exact ⟨[_], rfl, rfl, .cons .cap (.refl _)⟩
      · cases h
    · cases h
      exact ⟨[_], rfl, rfl, .cons .nil (.refl _)⟩
    · cases h
theorem SubL.append {a b c d : List AV} (h : SubL a b) (k : SubL c d) : SubL (a ++ c) (b ++ d) := by
  intro m bl vs r
  have : ∀ {a c vs}, Reps m bl (a ++ c) vs → ∃ v1 v2, vs = v1 ++ v2 ∧ Reps m bl a v1 ∧ Reps m bl c v2 := by
    intro a
    induction a with
    | nil => intro c vs r; exact ⟨[], vs, rfl, .nil, r⟩
    | cons x a ih =>
      intro c vs r
      cases r with
      | cons h t =>
        obtain ⟨v1, v2, rfl, h1, h2⟩ := ih t
        exact ⟨_ :: v1, v2, rfl, .cons h h1, h2⟩
  obtain ⟨v1, v2, rfl, h1, h2⟩ := this r
  exact (h _ _ _ h1).append (k _ _ _ h2)
theorem avL_append : ∀ a b : List (SV tb), avL (a ++ b) = avL a ++ avL b
  | [], _ => rfl
  | x :: a, b => by simp only [List.cons_append, avL, avL_append a b]
theorem okPair {α β : Type} {a : Ac α} {b : Ac β} {c : Fc tb α} {d : Fc tb β} (h : FcOk a c) (k : FcOk b d) : FcOk (aPair a b) (fPair c d) where
  sl l x r e j y hj hy := by
    unfold fPair at e
    simp only at e
    split at e
    · rename_i x1 r1 h1
      split at e
      · rename_i x2 r2 h2
        cases e
        have hl : (c.cs x1).length = a.n := by rw [← h.len x1, ← h.av x1, avL_len]
        show ∃ z, (c.cs x1 ++ d.cs x2)[j]? = some z ∧ _
        rcases Nat.lt_or_ge j a.n with hlt | hge
        · obtain ⟨z, h3, h4⟩ := h.sl _ _ _ h1 j y hlt hy
          exact ⟨z, by rw [List.getElem?_append_left (by rw [hl]; exact hlt)]; exact h3, h4⟩
        · obtain ⟨l1, rfl, g1, -⟩ := h.pr _ _ _ h1
          rw [List.getElem?_append_right (by rw [g1]; exact hge), g1] at hy
          obtain ⟨z, h3, h4⟩ := k.sl _ _ _ h2 (j - a.n) y (by simp [aPair] at hj; omega) hy
          exact ⟨z, by rw [List.getElem?_append_right (by rw [hl]; exact hge), hl]; exact h3, h4⟩
      · cases e
    · cases e
  av x := by show avL (c.cs x.1 ++ d.cs x.2) = _; rw [avL_append, h.av, k.av]; rfl
  len x := by simp [aPair, h.len, k.len]
  one x y hy := by
    rcases List.mem_append.1 hy with hy | hy
    · exact h.one _ y hy
    · exact k.one _ y hy
  pr l x r e := by
    unfold fPair at e
    simp only at e
    split at e
    · rename_i x1 r1 h1
      split at e
      · rename_i x2 r2 h2
        cases e
        obtain ⟨l1, rfl, g1, g2⟩ := h.pr _ _ _ h1
        obtain ⟨l2, rfl, g3, g4⟩ := k.pr _ _ _ h2
        exact ⟨l1 ++ l2, by simp, by simp [g1, g3, aPair], by rw [avL_append]; exact g2.append g4⟩
      · cases e
    · cases e
theorem okIso {α β : Type} {a : Ac α} {c : Fc tb α} {f : α → β} {g : β → α} (hf : ∀ x, g (f x) = x) (h : FcOk a c) : FcOk (aIso g a) (fIso f g c) where
  sl l x r e j y hj hy := by
    unfold fIso at e
    simp only at e
    split at e
    · rename_i x1 r1 h1
      cases e
      obtain ⟨z, h3, h4⟩ := h.sl _ _ _ h1 j y hj hy
      refine ⟨z, ?_, h4⟩
      show (c.cs (g (f x1)))[j]? = _
      rw [hf]; exact h3
    · cases e
  av x := h.av _
  len x := h.len _
  one x y hy := h.one _ y hy
  pr l x r e := by
    unfold fIso at e
    simp only at e
    split at e
    · rename_i x1 r1 h1
      cases e
      obtain ⟨l1, rfl, g1, g2⟩ := h.pr _ _ _ h1
      refine ⟨l1, rfl, g1, ?_⟩
      show SubL _ (a.ca (g (f x1)))
      rw [hf]; exact g2
    · cases e

/-- How the values of a type stand. -/
structure Cd (tb : Tb) (i : tb.Ix) where
  cs : tb.T i → List (SV tb)
  sv : tb.T i → SV tb
  of : SV tb → Option (tb.T i)
  inh : tb.T i
  flat : Bool
  /-- is it a struct or an array? -/
  ag : Bool
  /-- of cells -/
  ofC : List (SV tb) → Option (tb.T i)
structure CdOk {tb : Tb} {i : tb.Ix} (c : Cd tb i) : Prop where
  sv : ∀ x, (c.sv x).av = tb.el i x
  cs : ∀ x, avL (c.cs x) = (tb.el i x).cells
  of : ∀ s x, c.of s = some x → Sub s.av (tb.el i x)
  ofC : ∀ l x, c.ofC l = some x → SubL (avL l) (tb.el i x).cells ∧ l.length = tb.sz i
  slC : ∀ l x, c.ofC l = some x → ∀ (j : Nat) y, l[j]? = some y → ∃ z, (c.cs x)[j]? = some z ∧ SlCell y z
  len : ∀ x, (tb.el i x).cells.length = tb.sz i
  pos : 0 < tb.sz i
  bare : ∀ x, (tb.el i x).isBare = true ∧ allBare (tb.el i x).cells = true
  solid : ∀ x, (tb.el i x).solid = true
  flat : c.flat = true → ∀ x, (tb.el i x).flat = true
  ag : ∀ x, (c.ag = true ∧ tb.el i x = .agg (tb.el i x).cells ∧ c.sv x = .agg (c.cs x)) ∨ (c.ag = false ∧ (tb.el i x).cells = [tb.el i x] ∧ c.cs x = [c.sv x])

/-- Of a struct. -/
def cdA {i : tb.Ix} (c : Fc tb (tb.T i)) (inh : tb.T i) (flat : Bool) : Cd tb i where
  cs := c.cs
  sv x := .agg (c.cs x)
  of s := match s with | .agg l => (match c.pr l with | some (x, []) => some x | _ => none) | _ => none
  inh := inh
  flat := flat
  ag := true
  ofC l := match c.pr l with | some (x, []) => some x | _ => none
/-- Of a lone cell. -/
def cd1 {i : tb.Ix} (c : Fc tb (tb.T i)) (inh : tb.T i) (flat : Bool) : Cd tb i where
  cs := c.cs
  sv x := (c.cs x).headD .undef
  of s := match c.pr [s] with | some (x, []) => some x | _ => none
  inh := inh
  flat := flat
  ag := false
  ofC l := match c.pr l with | some (x, []) => some x | _ => none
theorem allBare_of_one {l : List AV} (h : ∀ y ∈ l, y.cells = [y] ∧ y.isBare = true ∧ y.solid = true) : allBare l = true := cleanL_of fun y hy => (h y hy).2.1
theorem okA {i : tb.Ix} {a : Ac (tb.T i)} {c : Fc tb (tb.T i)} {inh : tb.T i} {flat : Bool} (h : FcOk a c) (he : ∀ x, tb.el i x = .agg (a.ca x)) (hs : tb.sz i = a.n) (hp : Nat.ble 1 a.n = true) (hf : flat = true → ∀ x, flatL (a.ca x) = true) : CdOk (cdA (tb := tb) c inh flat) where
  sv x := by show AV.agg (avL (c.cs x)) = _; rw [h.av, he]
  cs x := by show avL (c.cs x) = _; rw [h.av, he]; rfl
  of s x e := by
    unfold cdA at e
    simp only at e
    split at e
    · rename_i l
      split at e
      · rename_i y hy
        cases e
        obtain ⟨l1, rfl, -, g⟩ := h.pr _ _ _ hy
        rw [he, List.append_nil]; exact .agg g
      · cases e
    · cases e
  ofC l x e := by
    unfold cdA at e
    simp only at e
    split at e
    · rename_i y hy
      cases e
      obtain ⟨l1, rfl, g1, g⟩ := h.pr _ _ _ hy
      rw [he, hs, List.append_nil]; exact ⟨g, g1⟩
    · cases e
  slC l x e j y hy := by
    unfold cdA at e
    simp only at e
    split at e
    · rename_i z hz
      cases e
      obtain ⟨l1, rfl, g1, g⟩ := h.pr _ _ _ hz
      refine h.sl _ _ _ hz j y ?_ hy
      rw [List.append_nil] at hy
      rw [← g1]
      rcases Nat.lt_or_ge j l1.length with h | h
      · exact h
      · rw [List.getElem?_eq_none h] at hy; cases hy
    · cases e
  len x := by rw [he, hs]; exact h.len x
  pos := by rw [hs]; exact Nat.le_of_ble_eq_true hp
  bare x := by rw [he]; exact ⟨allBare_of_one (h.one x), allBare_of_one (h.one x)⟩
  solid x := by rw [he]; rfl
  flat e x := by rw [he]; exact hf e x
  ag x := .inl ⟨rfl, by rw [he]; rfl, rfl⟩
theorem ok1 {i : tb.Ix} {a : Ac (tb.T i)} {c : Fc tb (tb.T i)} {inh : tb.T i} {flat : Bool} (h : FcOk a c) (he : ∀ x, a.ca x = [tb.el i x]) (hs : tb.sz i = 1) (hn : a.n = 1) (hf : flat = true → ∀ x, (tb.el i x).flat = true) : CdOk (cd1 (tb := tb) c inh flat) where
  sv x := by
    have h1 := h.av x
    rw [he] at h1
    show ((c.cs x).headD .undef).av = _
    cases hc : c.cs x with
    | nil => rw [hc] at h1; cases h1
    | cons y l => rw [hc] at h1; simp only [avL, List.cons.injEq] at h1; exact h1.1
  cs x := by
    show avL (c.cs x) = _
    rw [h.av, he, (h.one x (tb.el i x) (by rw [he]; simp)).1]
  of s x e := by
    unfold cd1 at e
    simp only at e
    split at e
    · rename_i y hy
      cases e
      obtain ⟨l1, h1, -, g⟩ := h.pr _ _ _ hy
      rw [List.append_nil] at h1
      subst h1
      rw [he] at g
      intro m bl v r
      have := g m bl [v] (.cons r .nil)
      cases this with | cons a b => exact a
    · cases e
  ofC l x e := by
    unfold cd1 at e
    simp only at e
    split at e
    · rename_i y hy
      cases e
      obtain ⟨l1, rfl, g1, g⟩ := h.pr _ _ _ hy
      rw [List.append_nil, (h.one x (tb.el i x) (by rw [he]; simp)).1, hs]
      rw [he] at g; exact ⟨g, by rw [g1, hn]⟩
    · cases e
  slC l x e j y hy := by
    unfold cd1 at e
    simp only at e
    split at e
    · rename_i z hz
      cases e
      obtain ⟨l1, rfl, g1, g⟩ := h.pr _ _ _ hz
      refine h.sl _ _ _ hz j y ?_ hy
      rw [List.append_nil] at hy
      rw [← g1]
      rcases Nat.lt_or_ge j l1.length with h | h
      · exact h
      · rw [List.getElem?_eq_none h] at hy; cases hy
    · cases e
  len x := by rw [(h.one x (tb.el i x) (by rw [he]; simp)).1, hs]; rfl
  pos := by rw [hs]; omega
  bare x := by
    obtain ⟨h1, h2, -⟩ := h.one x (tb.el i x) (by rw [he]; simp)
    refine ⟨h2, ?_⟩
    rw [h1]; simpa [cleanL] using h2
  solid x := (h.one x (tb.el i x) (by rw [he]; simp)).2.2
  flat e x := hf e x
  ag x := by
    refine .inr ⟨rfl, (h.one x (tb.el i x) (by rw [he]; simp)).1, ?_⟩
    have h1 := h.av x
    rw [he] at h1
    show c.cs x = [(c.cs x).headD .undef]
    cases hc : c.cs x with
    | nil => rw [hc] at h1; cases h1
    | cons y l =>
      rw [hc] at h1
      simp only [avL, List.cons.injEq] at h1
      cases l with
      | nil => rfl
      | cons z l => exact absurd h1.2 (by simp [avL])
end Go.Rx
