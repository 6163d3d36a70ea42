/- Several texts in one. No conditions. -/
import Derived.Test.YtffgldbihpgjgaaGreatDoorQB
section
/-
  Typed symbolic values: what a checked run of the code computes with. No conditions.
-/
set_option linter.all false
namespace Go.Rx
open Go.RowKit

/-! a long chain of names: what mentions its end is unfolded before what does not (the kernel compares heights) -/
def hh0 : Unit := ()
def hh1 : Unit := hh0
def hh2 : Unit := hh1
def hh3 : Unit := hh2
def hh4 : Unit := hh3
def hh5 : Unit := hh4
def hh6 : Unit := hh5
def hh7 : Unit := hh6
def hh8 : Unit := hh7
def hh9 : Unit := hh8
def hh10 : Unit := hh9
def hh11 : Unit := hh10
def hh12 : Unit := hh11
def hh13 : Unit := hh12
def hh14 : Unit := hh13
def hh15 : Unit := hh14
def hh16 : Unit := hh15
def hh17 : Unit := hh16
def hh18 : Unit := hh17
def hh19 : Unit := hh18
def hh20 : Unit := hh19
def hh21 : Unit := hh20
def hh22 : Unit := hh21
def hh23 : Unit := hh22
def hh24 : Unit := hh23
def hh25 : Unit := hh24
def hh26 : Unit := hh25
def hh27 : Unit := hh26
def hh28 : Unit := hh27
def hh29 : Unit := hh28
def hh30 : Unit := hh29
def hh31 : Unit := hh30
def hh32 : Unit := hh31
def hh33 : Unit := hh32
def hh34 : Unit := hh33
def hh35 : Unit := hh34
def hh36 : Unit := hh35
def hh37 : Unit := hh36
def hh38 : Unit := hh37
def hh39 : Unit := hh38
def hh40 : Unit := hh39
def hh41 : Unit := hh40
def hh42 : Unit := hh41
def hh43 : Unit := hh42
def hh44 : Unit := hh43
def hh45 : Unit := hh44
def hh46 : Unit := hh45
def hh47 : Unit := hh46
def hh48 : Unit := hh47
def hh49 : Unit := hh48
def hh50 : Unit := hh49
def hh51 : Unit := hh50
def hh52 : Unit := hh51
def hh53 : Unit := hh52
def hh54 : Unit := hh53
def hh55 : Unit := hh54
def hh56 : Unit := hh55
def hh57 : Unit := hh56
def hh58 : Unit := hh57
def hh59 : Unit := hh58
def hh60 : Unit := hh59
def hh61 : Unit := hh60
def hh62 : Unit := hh61
def hh63 : Unit := hh62
def hh64 : Unit := hh63
def hh65 : Unit := hh64
def hh66 : Unit := hh65
def hh67 : Unit := hh66
def hh68 : Unit := hh67
def hh69 : Unit := hh68
def hh70 : Unit := hh69
def hh71 : Unit := hh70
def hh72 : Unit := hh71
def hh73 : Unit := hh72
def hh74 : Unit := hh73
def hh75 : Unit := hh74
def hh76 : Unit := hh75
def hh77 : Unit := hh76
def hh78 : Unit := hh77
def hh79 : Unit := hh78
def hh80 : Unit := hh79
def hh81 : Unit := hh80
def hh82 : Unit := hh81
def hh83 : Unit := hh82
def hh84 : Unit := hh83
def hh85 : Unit := hh84
def hh86 : Unit := hh85
def hh87 : Unit := hh86
def hh88 : Unit := hh87
def hh89 : Unit := hh88
def hh90 : Unit := hh89
def hh91 : Unit := hh90
def hh92 : Unit := hh91
def hh93 : Unit := hh92
def hh94 : Unit := hh93
def hh95 : Unit := hh94
def hh96 : Unit := hh95
def hh97 : Unit := hh96
def hh98 : Unit := hh97
def hh99 : Unit := hh98
def hh100 : Unit := hh99
def hh101 : Unit := hh100
def hh102 : Unit := hh101
def hh103 : Unit := hh102
def hh104 : Unit := hh103
def hh105 : Unit := hh104
def hh106 : Unit := hh105
def hh107 : Unit := hh106
def hh108 : Unit := hh107
def hh109 : Unit := hh108
def hh110 : Unit := hh109
def hh111 : Unit := hh110
def hh112 : Unit := hh111
def hh113 : Unit := hh112
def hh114 : Unit := hh113
def hh115 : Unit := hh114
def hh116 : Unit := hh115
def hh117 : Unit := hh116
def hh118 : Unit := hh117
def hh119 : Unit := hh118
def hh120 : Unit := hh119
/-! words of the plain forms -/
def Let {β X : Type} (v : β) (k : β → X) : X := k v
def Bind {α β : Type} (m : Option α) (k : α → Option β) : Option β := m.bind k
def Chk {α : Type} (c : Prop) [Decidable c] (k : Option α) : Option α := if c then k else none
/-- A loop. -/
def LOOP {V X : Type} (step : (V → Option X) → V → Option X) : Nat → V → Option X
  | 0, _ => none
  | n + 1, v => step (LOOP step n) v
/-- More rounds than any loop takes. -/
def fuel : Nat := 2 ^ 70
abbrev w64 (n : Int) : Int := IntKind.i64.wrap n
def ix {α : Type} [Inhabited α] (l : List α) (i : Int) : α := l.getD i.toNat default
def toByte (n : Int) : UInt8 := UInt8.ofNat (n % 256).toNat
def bAnd (k : IntKind) (a b : Int) : Int := k.wrap (BitVec.ofInt k.bits a &&& BitVec.ofInt k.bits b).toNat
def bOr (k : IntKind) (a b : Int) : Int := k.wrap (BitVec.ofInt k.bits a ||| BitVec.ofInt k.bits b).toNat
def bXor (k : IntKind) (a b : Int) : Int := k.wrap (BitVec.ofInt k.bits a ^^^ BitVec.ofInt k.bits b).toNat
def bShl (k : IntKind) (a b : Int) : Int := k.wrap (a * 2 ^ (min b.toNat k.bits))
def bShr (k : IntKind) (a b : Int) : Int := a.fdiv (2 ^ (min b.toNat k.bits))

variable [GlC]
/-- The types of a program that occur: what stands for them in plain Lean, how many cells they take, what a value is in memory. -/
structure Tb where
  P : Program
  Ix : Type
  dec : DecidableEq Ix
  T : Ix → Type
  sz : Ix → Nat
  el : (i : Ix) → T i → AV
  look : Nat → Option Ix
  /-- the index of byte -/
  byte : Option { i : Ix // ∃ h : T i = UInt8, sz i = 1 ∧ ∀ x, el i x = byteAV (cast h x) }

def Tup (tb : Tb) : List tb.Ix → Type
  | [] => Unit
  | [i] => tb.T i
  | i :: j :: r => tb.T i × Tup tb (j :: r)

section
variable {tb : Tb}
def tupAV : (rs : List tb.Ix) → Tup tb rs → List AV
  | [], _ => []
  | [i], x => [tb.el i x]
  | i :: j :: r, x => tb.el i x.1 :: tupAV (j :: r) x.2
def resAV (rs : List tb.Ix) (r : Tup tb rs) : AV := tupleOf (tupAV rs r)
def CloR (tb : Tb) (f : Nat) (caps : List AV) (ps rs : List tb.Ix) (g : Tup tb ps → Option (Tup tb rs)) : Prop :=
  (∀ (vs : Array Value) (w : World), (callFunc f vs).run tb.P w = .ok (.enter f vs) w) ∧ allBare caps = true ∧ ∀ a r, g a = some r → FnR tb.P f (tupAV ps a ++ caps) (resAV rs r) []
end
/-- A guard: slot, what it waits for, what it yields; the innermost first. -/
abbrev Gd := List (Nat × Bool × Bool)
def gc : Gd → Bool
  | [] => true
  | (_, w, t) :: G => match G with
    | [] => t == w
    | _ :: _ => gc G && (t == w)
def gc0 : Gd → Bool
  | [] => true
  | (_, w, t) :: G => gc0 G && (t == w)
theorem gc_eq : ∀ G, gc G = gc0 G
  | [] => rfl
  | [(_, w, t)] => by simp [gc, gc0]
  | (_, w, t) :: g :: G => by show (gc (g :: G) && _) = (gc0 (g :: G) && _); rw [gc_eq (g :: G)]

inductive SV (tb : Tb) : Type where
  | undef
  | i (k : IntKind) (n : Int)
  | b8 (c : UInt8)
  | bo (b : Bool)
  | st (s : List UInt8)
  | con (x : Value)
  | agg (l : List (SV tb))
  | tup (l : List (SV tb))
  | sl (c : Bool) (E : tb.Ix) (l : List (tb.T E))
  | em (E : tb.Ix)
  | cp (l : List (SV tb))
  | fn (f : Nat) (l : List (SV tb))
  | ptr (id off : Nat)
  | epr (id : Nat) (E : tb.Ix) (i : Int) (fo : Nat)
  | row (id : Nat) (E : tb.Ix) (off len mc : Nat)
  | rw (id : Nat) (E : tb.Ix)
  | opt (G : Gd) (x : SV tb)
  | cl (ps rs : List tb.Ix) (g : Tup tb ps → Option (Tup tb rs)) (f : Nat) (caps : List AV) (h : CloR tb f caps ps rs g)
  | ifc (t : Nat) (x : SV tb)

variable {tb : Tb}
mutual
def SV.av : SV tb → AV
  | .undef => .undef
  | .i k n => .v (.int k n)
  | .b8 c => byteAV c
  | .bo b => .v (.bool b)
  | .st s => .v (.string ⟨s.toArray⟩)
  | .con x => .v x
  | .agg l => .agg (avL l)
  | .tup l => .tup (avL l)
  | .sl c E l => .sl c (tb.sz E) (l.map (tb.el E))
  | .em E => .sl true (tb.sz E) []
  | .cp l => .cptr (avL l)
  | .fn f l => .clo f (avL l)
  | .ptr id off => .ptr id off
  | .epr id E i fo => .ptr id (i.toNat * tb.sz E + fo)
  | .row id E off len mc => .row id (off * tb.sz E) len mc (tb.sz E)
  | .rw id E => .rw id (tb.sz E)
  | .opt G x => .opt (gc G) x.av
  | .cl _ _ _ f caps _ => .clo f caps
  | .ifc t x => .ifc t x.av
def avL : List (SV tb) → List AV
  | [] => []
  | x :: l => x.av :: avL l
end
theorem avL_map : ∀ l : List (SV tb), avL l = l.map SV.av
  | [] => rfl
  | x :: l => by simp only [avL, avL_map l, List.map_cons]

/- names are renamed or go -/
mutual
def SV.re (q : Nat → Option Nat) : SV tb → SV tb
  | .undef => .undef
  | .i k n => .i k n
  | .b8 c => .b8 c
  | .bo b => .bo b
  | .st s => .st s
  | .con x => .con x
  | .agg l => .agg (sreL q l)
  | .tup l => .tup (sreL q l)
  | .sl c E l => .sl c E l
  | .em E => .em E
  | .cp l => .cp l
  | .fn f l => .fn f (sreL q l)
  | .ptr id off => match q id with | some j => .ptr j off | none => .undef
  | .epr id E i fo => match q id with | some j => .epr j E i fo | none => .undef
  | .row id E off len mc => match q id with | some j => .row j E off len mc | none => .undef
  | .rw id E => match q id with | some j => .rw j E | none => .undef
  | .opt G x => .opt G (x.re q)
  | .cl ps rs g f caps h => .cl ps rs g f caps h
  | .ifc t x => .ifc t (x.re q)
def sreL (q : Nat → Option Nat) : List (SV tb) → List (SV tb)
  | [] => []
  | x :: l => x.re q :: sreL q l
end
mutual
theorem SV.re_av {q : Nat → Option Nat} : ∀ x : SV tb, (x.re q).av = x.av.re q
  | .undef => rfl
  | .i _ _ => rfl
  | .b8 _ => rfl
  | .bo _ => rfl
  | .st _ => rfl
  | .con _ => rfl
  | .agg l => by simp only [SV.re, SV.av, AV.re, sreL_av l]
  | .tup l => by simp only [SV.re, SV.av, AV.re, sreL_av l]
  | .sl _ _ _ => rfl
  | .em _ => rfl
  | .cp _ => by simp only [SV.re, SV.av, AV.re]
  | .fn _ l => by simp only [SV.re, SV.av, AV.re, sreL_av l]
  | .ptr id off => by simp only [SV.re, SV.av, AV.re]; cases q id <;> rfl
  | .epr id E i fo => by simp only [SV.re, SV.av, AV.re]; cases q id <;> rfl
  | .row id E off len mc => by simp only [SV.re, SV.av, AV.re]; cases q id <;> rfl
  | .rw id E => by simp only [SV.re, SV.av, AV.re]; cases q id <;> rfl
  | .opt _ x => by simp only [SV.re, SV.av, AV.re, SV.re_av x]
  | .cl _ _ _ _ _ h => by simp only [SV.re, SV.av, AV.re]; rw [bareL_of h.2.1]
  | .ifc _ x => by simp only [SV.re, SV.av, AV.re, SV.re_av x]
theorem sreL_av {q : Nat → Option Nat} : ∀ l : List (SV tb), avL (sreL q l) = reL q (avL l)
  | [] => rfl
  | x :: l => by simp only [sreL, avL, reL, SV.re_av x, sreL_av l]
end

/-- What lies in an own block. -/
inductive SC (tb : Tb) : Type where
  | cells (l : List (SV tb))
  | arr (E : tb.Ix) (l : List (tb.T E))
  | iter (s : List UInt8) (p : Nat)
def elC (tb : Tb) (E : tb.Ix) (l : List (tb.T E)) : List AV := (l.map (tb.el E)).flatMap AV.cells
def SC.av : SC tb → ABlk
  | .cells l => .cells (avL l)
  | .arr E l => .cells (elC tb E l)
  | .iter s p => .iter ⟨s.toArray⟩ p
def SC.re (q : Nat → Option Nat) : SC tb → SC tb
  | .cells l => .cells (sreL q l)
  | .arr E l => .arr E l
  | .iter s p => .iter s p

/-! how plain values stand as symbolic ones -/

/-- A value's cells in memory, in plain data: of α. -/
structure Ac (α : Type) where
  n : Nat
  ca : α → List AV
/-- Its cells as symbolic values, and back. -/
structure Fc (tb : Tb) (α : Type) where
  cs : α → List (SV tb)
  pr : List (SV tb) → Option (α × List (SV tb))
/-- Is it the slice that is nil, or empty? -/
def SV.em0 : SV tb → Bool
  | .em _ => true
  | .con (.slice none 0 0) => true
  | _ => false
/-- A slice's cell stands as it was given. -/
structure SlCell (x y : SV tb) : Prop where
  sl : ∀ c E l, x = .sl c E l → y = .sl false E l
  em : x.em0 = true → ∃ E, y = .sl false E []
  sub : Sub x.av y.av
theorem SlCell.no {x y : SV tb} (h : ∀ c E l, x ≠ .sl c E l) (k : x.em0 = false) (hs : Sub x.av y.av) : SlCell x y := ⟨fun c E l e => absurd e (h c E l), fun e => (by rw [k] at e; cases e), hs⟩
structure FcOk {α : Type} (a : Ac α) (c : Fc tb α) : Prop where
  sl : ∀ l x r, c.pr l = some (x, r) → ∀ (j : Nat) y, j < a.n → l[j]? = some y → ∃ z, (c.cs x)[j]? = some z ∧ SlCell y z
  av : ∀ x, avL (c.cs x) = a.ca x
  len : ∀ x, (a.ca x).length = a.n
  one : ∀ x, ∀ y ∈ a.ca x, y.cells = [y] ∧ y.isBare = true ∧ y.solid = true
  pr : ∀ l x r, c.pr l = some (x, r) → ∃ l1, l = l1 ++ r ∧ l1.length = a.n ∧ SubL (avL l1) (a.ca x)

def aInt (k : IntKind) : Ac Int := ⟨1, fun n => [.v (.int k n)]⟩
def aByte : Ac UInt8 := ⟨1, fun c => [byteAV c]⟩
def aBool : Ac Bool := ⟨1, fun b => [.v (.bool b)]⟩
def aStr : Ac (List UInt8) := ⟨1, fun s => [.v (.string ⟨s.toArray⟩)]⟩
def aSl {α : Type} (n : Nat) (el : α → AV) : Ac (List α) := ⟨1, fun l => [.sl false n (l.map el)]⟩
def aPair {α β : Type} (a : Ac α) (b : Ac β) : Ac (α × β) := ⟨a.n + b.n, fun p => a.ca p.1 ++ b.ca p.2⟩
def aIso {α β : Type} (g : β → α) (a : Ac α) : Ac β := ⟨a.n, fun x => a.ca (g x)⟩
/-- The value as one: a struct's cells together, a lone cell by itself. -/
def Ac.elA {α : Type} (a : Ac α) (x : α) : AV := .agg (a.ca x)
def Ac.el1 {α : Type} (a : Ac α) (x : α) : AV := (a.ca x).headD .undef

def fInt (k : IntKind) : Fc tb Int := ⟨fun n => [.i k n], fun
  | .i k' n :: r => if k' = k then some (n, r) else none
  | .con (.int k' n) :: r => if k' = k then some (n, r) else none
  | _ => none⟩
def fByte : Fc tb UInt8 := ⟨fun c => [.b8 c], fun
  | .b8 c :: r => some (c, r)
  | .con (.int .u8 n) :: r => if 0 ≤ n ∧ n < 256 then some (toByte n, r) else none
  | _ => none⟩
def fBool : Fc tb Bool := ⟨fun b => [.bo b], fun
  | .bo b :: r => some (b, r)
  | .con (.bool b) :: r => some (b, r)
  | _ => none⟩
def fStr : Fc tb (List UInt8) := ⟨fun s => [.st s], fun
  | .st s :: r => some (s, r)
  | .con (.string s) :: r => some (s.data.toList, r)
  | _ => none⟩
def fSl (E : tb.Ix) : Fc tb (List (tb.T E)) := ⟨fun l => [.sl false E l], fun
  | .sl _ E' l :: r => match tb.dec E' E with | isTrue h => some (h ▸ l, r) | isFalse _ => none
  | .em E' :: r => match tb.dec E' E with | isTrue _ => some ([], r) | isFalse _ => none
  | .con (.slice none 0 0) :: r => some ([], r)
  | _ => none⟩
def fPair {α β : Type} (a : Fc tb α) (b : Fc tb β) : Fc tb (α × β) := ⟨fun p => a.cs p.1 ++ b.cs p.2, fun l => match a.pr l with | some (x, r) => (match b.pr r with | some (y, r') => some ((x, y), r') | none => none) | none => none⟩
def fIso {α β : Type} (f : α → β) (g : β → α) (a : Fc tb α) : Fc tb β := ⟨fun x => a.cs (g x), fun l => match a.pr l with | some (x, r) => some (f x, r) | none => none⟩

theorem avL_len : ∀ l : List (SV tb), (avL l).length = l.length
  | [] => rfl
  | x :: l => by simp only [avL, List.length_cons, avL_len l]
theorem okInt (k : IntKind) : FcOk (tb := tb) (aInt k) (fInt k) where
  sl l x r h j y hj hy := by
    unfold fInt at h
    simp only at h
    have hj0 : j = 0 := by simp [aInt] at hj; omega
    subst hj0
    split at h
    · split at h
      · rename_i hk; subst hk; cases h; simp at hy; subst hy; exact ⟨_, rfl, .no (by intro _ _ _ h; cases h) rfl (.refl _)⟩
      · cases h
    · split at h
      · rename_i hk; subst hk; cases h; simp at hy; subst hy; exact ⟨_, rfl, .no (by intro _ _ _ h; cases h) rfl (.refl _)⟩
      · cases h
    · cases h
  av _ := rfl
  len _ := rfl
  one x y hy := by simp [aInt] at hy; subst hy; exact ⟨rfl, rfl, rfl⟩
  pr l x r h := by
    unfold fInt at h
    simp only at h
    split at h
    · split at h
      · rename_i hk; subst hk; cases h; exact ⟨[_], rfl, rfl, .refl _⟩
      · cases h
    · split at h
      · rename_i hk; subst hk; cases h; exact ⟨[_], rfl, rfl, .refl _⟩
      · cases h
    · cases h
theorem toByte_toNat {n : Int} (h : 0 ≤ n ∧ n < 256) : ((toByte n).toNat : Int) = n := by
  unfold toByte
  rw [UInt8.toNat_ofNat']
  omega
theorem okByte : FcOk (tb := tb) aByte fByte where
  sl l x r h j y hj hy := by
    unfold fByte at h
    simp only at h
    have hj0 : j = 0 := by simp [aByte] at hj; omega
    subst hj0
    split at h
    · cases h; simp at hy; subst hy; exact ⟨_, rfl, .no (by intro _ _ _ h; cases h) rfl (.refl _)⟩
    · split at h
      · rename_i hk; cases h; simp at hy; subst hy; exact ⟨_, rfl, .no (by intro _ _ _ h; cases h) rfl (by show Sub (AV.v _) (byteAV _); unfold byteAV; rw [toByte_toNat hk]; exact .refl _)⟩
      · cases h
    · cases h
  av _ := rfl
  len _ := rfl
  one x y hy := by simp [aByte] at hy; subst hy; exact ⟨rfl, rfl, rfl⟩
  pr l x r h := by
    unfold fByte at h
    simp only at h
    split at h
    · cases h; exact ⟨[_], rfl, rfl, .refl _⟩
    · split at h
      · rename_i hk; cases h
        refine ⟨[_], rfl, rfl, ?_⟩
        show SubL [AV.v _] [byteAV _]
        unfold byteAV; rw [toByte_toNat hk]; exact .refl _
      · cases h
    · cases h
theorem okBool : FcOk (tb := tb) aBool fBool where
  sl l x r h j y hj hy := by
    unfold fBool at h
    simp only at h
    have hj0 : j = 0 := by simp [aBool] at hj; omega
    subst hj0
    split at h
    · cases h; simp at hy; subst hy; exact ⟨_, rfl, .no (by intro _ _ _ h; cases h) rfl (.refl _)⟩
    · cases h; simp at hy; subst hy; exact ⟨_, rfl, .no (by intro _ _ _ h; cases h) rfl (.refl _)⟩
    · cases h
  av _ := rfl
  len _ := rfl
  one x y hy := by simp [aBool] at hy; subst hy; exact ⟨rfl, rfl, rfl⟩
  pr l x r h := by
    unfold fBool at h
    simp only at h
    split at h
    · cases h; exact ⟨[_], rfl, rfl, .refl _⟩
    · cases h; exact ⟨[_], rfl, rfl, .refl _⟩
    · cases h
theorem str_mk (s : ByteArray) : (⟨s.data.toList.toArray⟩ : ByteArray) = s := by cases s; simp
theorem okStr : FcOk (tb := tb) aStr fStr where
  sl l x r h j y hj hy := by
    unfold fStr at h
    simp only at h
    have hj0 : j = 0 := by simp [aStr] at hj; omega
    subst hj0
    split at h
    · cases h; simp at hy; subst hy; exact ⟨_, rfl, .no (by intro _ _ _ h; cases h) rfl (.refl _)⟩
    · cases h; simp at hy; subst hy; exact ⟨_, rfl, .no (by intro _ _ _ h; cases h) rfl (by show Sub (AV.v _) (AV.v _); rw [str_mk]; exact .refl _)⟩
    · cases h
  av _ := rfl
  len _ := rfl
  one x y hy := by simp [aStr] at hy; subst hy; exact ⟨rfl, rfl, rfl⟩
  pr l x r h := by
    unfold fStr at h
    simp only at h
    split at h
    · cases h; exact ⟨[_], rfl, rfl, .refl _⟩
    · cases h
      refine ⟨[_], rfl, rfl, ?_⟩
      show SubL [AV.v _] [AV.v _]
      rw [str_mk]; exact .refl _
    · cases h
theorem okSl (E : tb.Ix) : FcOk (tb := tb) (aSl (tb.sz E) (tb.el E)) (fSl E) where
  sl l x r h j y hj hy := by
    unfold fSl at h
    simp only at h
    have hj0 : j = 0 := by simp [aSl] at hj; omega
    subst hj0
    split at h
    · split at h
      · rename_i hk _; subst hk; cases h
        simp at hy; subst hy
        exact ⟨_, rfl, ⟨(by rintro _ _ _ h; cases h; rfl), (by intro h; cases h), .cap⟩⟩
      · cases h
    · split at h
      · rename_i hk _; subst hk; cases h
        simp at hy; subst hy
        exact ⟨_, rfl, ⟨(by rintro _ _ _ h; cases h), (fun _ => ⟨_, rfl⟩), .cap⟩⟩
      · cases h
    · cases h
      simp at hy; subst hy
      exact ⟨_, rfl, ⟨(by rintro _ _ _ h; cases h), (fun _ => ⟨_, rfl⟩), .nil⟩⟩
    · cases h
  av _ := rfl
  len _ := rfl
  one x y hy := by simp [aSl] at hy; subst hy; exact ⟨rfl, rfl, rfl⟩
  pr l x r h := by
    unfold fSl at h
    simp only at h
    split at h
    · split at h
      · rename_i hk _; subst hk; cases h
        exact ⟨[_], rfl, rfl, .cons .cap (.refl _)⟩
      · cases h
    · split at h
      · rename_i hk _; subst hk; cases h
        exact ⟨[_], rfl, rfl, .cons .cap (.refl _)⟩
      · cases h
    · cases h
      exact ⟨[_], rfl, rfl, .cons .nil (.refl _)⟩
    · cases h
theorem SubL.append {a b c d : List AV} (h : SubL a b) (k : SubL c d) : SubL (a ++ c) (b ++ d) := by
  intro m bl vs r
  have : ∀ {a c vs}, Reps m bl (a ++ c) vs → ∃ v1 v2, vs = v1 ++ v2 ∧ Reps m bl a v1 ∧ Reps m bl c v2 := by
    intro a
    induction a with
    | nil => intro c vs r; exact ⟨[], vs, rfl, .nil, r⟩
    | cons x a ih =>
      intro c vs r
      cases r with
      | cons h t =>
        obtain ⟨v1, v2, rfl, h1, h2⟩ := ih t
        exact ⟨_ :: v1, v2, rfl, .cons h h1, h2⟩
  obtain ⟨v1, v2, rfl, h1, h2⟩ := this r
  exact (h _ _ _ h1).append (k _ _ _ h2)
theorem avL_append : ∀ a b : List (SV tb), avL (a ++ b) = avL a ++ avL b
  | [], _ => rfl
  | x :: a, b => by simp only [List.cons_append, avL, avL_append a b]
theorem okPair {α β : Type} {a : Ac α} {b : Ac β} {c : Fc tb α} {d : Fc tb β} (h : FcOk a c) (k : FcOk b d) : FcOk (aPair a b) (fPair c d) where
  sl l x r e j y hj hy := by
    unfold fPair at e
    simp only at e
    split at e
    · rename_i x1 r1 h1
      split at e
      · rename_i x2 r2 h2
        cases e
        have hl : (c.cs x1).length = a.n := by rw [← h.len x1, ← h.av x1, avL_len]
        show ∃ z, (c.cs x1 ++ d.cs x2)[j]? = some z ∧ _
        rcases Nat.lt_or_ge j a.n with hlt | hge
        · obtain ⟨z, h3, h4⟩ := h.sl _ _ _ h1 j y hlt hy
          exact ⟨z, by rw [List.getElem?_append_left (by rw [hl]; exact hlt)]; exact h3, h4⟩
        · obtain ⟨l1, rfl, g1, -⟩ := h.pr _ _ _ h1
          rw [List.getElem?_append_right (by rw [g1]; exact hge), g1] at hy
          obtain ⟨z, h3, h4⟩ := k.sl _ _ _ h2 (j - a.n) y (by simp [aPair] at hj; omega) hy
          exact ⟨z, by rw [List.getElem?_append_right (by rw [hl]; exact hge), hl]; exact h3, h4⟩
      · cases e
    · cases e
  av x := by show avL (c.cs x.1 ++ d.cs x.2) = _; rw [avL_append, h.av, k.av]; rfl
  len x := by simp [aPair, h.len, k.len]
  one x y hy := by
    rcases List.mem_append.1 hy with hy | hy
    · exact h.one _ y hy
    · exact k.one _ y hy
  pr l x r e := by
    unfold fPair at e
    simp only at e
    split at e
    · rename_i x1 r1 h1
      split at e
      · rename_i x2 r2 h2
        cases e
        obtain ⟨l1, rfl, g1, g2⟩ := h.pr _ _ _ h1
        obtain ⟨l2, rfl, g3, g4⟩ := k.pr _ _ _ h2
        exact ⟨l1 ++ l2, by simp, by simp [g1, g3, aPair], by rw [avL_append]; exact g2.append g4⟩
      · cases e
    · cases e
theorem okIso {α β : Type} {a : Ac α} {c : Fc tb α} {f : α → β} {g : β → α} (hf : ∀ x, g (f x) = x) (h : FcOk a c) : FcOk (aIso g a) (fIso f g c) where
  sl l x r e j y hj hy := by
    unfold fIso at e
    simp only at e
    split at e
    · rename_i x1 r1 h1
      cases e
      obtain ⟨z, h3, h4⟩ := h.sl _ _ _ h1 j y hj hy
      refine ⟨z, ?_, h4⟩
      show (c.cs (g (f x1)))[j]? = _
      rw [hf]; exact h3
    · cases e
  av x := h.av _
  len x := h.len _
  one x y hy := h.one _ y hy
  pr l x r e := by
    unfold fIso at e
    simp only at e
    split at e
    · rename_i x1 r1 h1
      cases e
      obtain ⟨l1, rfl, g1, g2⟩ := h.pr _ _ _ h1
      refine ⟨l1, rfl, g1, ?_⟩
      show SubL _ (a.ca (g (f x1)))
      rw [hf]; exact g2
    · cases e

/-- How the values of a type stand. -/
structure Cd (tb : Tb) (i : tb.Ix) where
  cs : tb.T i → List (SV tb)
  sv : tb.T i → SV tb
  of : SV tb → Option (tb.T i)
  inh : tb.T i
  flat : Bool
  /-- is it a struct or an array? -/
  ag : Bool
  /-- of cells -/
  ofC : List (SV tb) → Option (tb.T i)
structure CdOk {tb : Tb} {i : tb.Ix} (c : Cd tb i) : Prop where
  sv : ∀ x, (c.sv x).av = tb.el i x
  cs : ∀ x, avL (c.cs x) = (tb.el i x).cells
  of : ∀ s x, c.of s = some x → Sub s.av (tb.el i x)
  ofC : ∀ l x, c.ofC l = some x → SubL (avL l) (tb.el i x).cells ∧ l.length = tb.sz i
  slC : ∀ l x, c.ofC l = some x → ∀ (j : Nat) y, l[j]? = some y → ∃ z, (c.cs x)[j]? = some z ∧ SlCell y z
  len : ∀ x, (tb.el i x).cells.length = tb.sz i
  pos : 0 < tb.sz i
  bare : ∀ x, (tb.el i x).isBare = true ∧ allBare (tb.el i x).cells = true
  solid : ∀ x, (tb.el i x).solid = true
  flat : c.flat = true → ∀ x, (tb.el i x).flat = true
  ag : ∀ x, (c.ag = true ∧ tb.el i x = .agg (tb.el i x).cells ∧ c.sv x = .agg (c.cs x)) ∨ (c.ag = false ∧ (tb.el i x).cells = [tb.el i x] ∧ c.cs x = [c.sv x])

/-- Of a struct. -/
def cdA {i : tb.Ix} (c : Fc tb (tb.T i)) (inh : tb.T i) (flat : Bool) : Cd tb i where
  cs := c.cs
  sv x := .agg (c.cs x)
  of s := match s with | .agg l => (match c.pr l with | some (x, []) => some x | _ => none) | _ => none
  inh := inh
  flat := flat
  ag := true
  ofC l := match c.pr l with | some (x, []) => some x | _ => none
/-- Of a lone cell. -/
def cd1 {i : tb.Ix} (c : Fc tb (tb.T i)) (inh : tb.T i) (flat : Bool) : Cd tb i where
  cs := c.cs
  sv x := (c.cs x).headD .undef
  of s := match c.pr [s] with | some (x, []) => some x | _ => none
  inh := inh
  flat := flat
  ag := false
  ofC l := match c.pr l with | some (x, []) => some x | _ => none
theorem allBare_of_one {l : List AV} (h : ∀ y ∈ l, y.cells = [y] ∧ y.isBare = true ∧ y.solid = true) : allBare l = true := cleanL_of fun y hy => (h y hy).2.1
theorem okA {i : tb.Ix} {a : Ac (tb.T i)} {c : Fc tb (tb.T i)} {inh : tb.T i} {flat : Bool} (h : FcOk a c) (he : ∀ x, tb.el i x = .agg (a.ca x)) (hs : tb.sz i = a.n) (hp : Nat.ble 1 a.n = true) (hf : flat = true → ∀ x, flatL (a.ca x) = true) : CdOk (cdA (tb := tb) c inh flat) where
  sv x := by show AV.agg (avL (c.cs x)) = _; rw [h.av, he]
  cs x := by show avL (c.cs x) = _; rw [h.av, he]; rfl
  of s x e := by
    unfold cdA at e
    simp only at e
    split at e
    · rename_i l
      split at e
      · rename_i y hy
        cases e
        obtain ⟨l1, rfl, -, g⟩ := h.pr _ _ _ hy
        rw [he, List.append_nil]; exact .agg g
      · cases e
    · cases e
  ofC l x e := by
    unfold cdA at e
    simp only at e
    split at e
    · rename_i y hy
      cases e
      obtain ⟨l1, rfl, g1, g⟩ := h.pr _ _ _ hy
      rw [he, hs, List.append_nil]; exact ⟨g, g1⟩
    · cases e
  slC l x e j y hy := by
    unfold cdA at e
    simp only at e
    split at e
    · rename_i z hz
      cases e
      obtain ⟨l1, rfl, g1, g⟩ := h.pr _ _ _ hz
      refine h.sl _ _ _ hz j y ?_ hy
      rw [List.append_nil] at hy
      rw [← g1]
      rcases Nat.lt_or_ge j l1.length with h | h
      · exact h
      · rw [List.getElem?_eq_none h] at hy; cases hy
    · cases e
  len x := by rw [he, hs]; exact h.len x
  pos := by rw [hs]; exact Nat.le_of_ble_eq_true hp
  bare x := by rw [he]; exact ⟨allBare_of_one (h.one x), allBare_of_one (h.one x)⟩
  solid x := by rw [he]; rfl
  flat e x := by rw [he]; exact hf e x
  ag x := .inl ⟨rfl, by rw [he]; rfl, rfl⟩
theorem ok1 {i : tb.Ix} {a : Ac (tb.T i)} {c : Fc tb (tb.T i)} {inh : tb.T i} {flat : Bool} (h : FcOk a c) (he : ∀ x, a.ca x = [tb.el i x]) (hs : tb.sz i = 1) (hn : a.n = 1) (hf : flat = true → ∀ x, (tb.el i x).flat = true) : CdOk (cd1 (tb := tb) c inh flat) where
  sv x := by
    have h1 := h.av x
    rw [he] at h1
    show ((c.cs x).headD .undef).av = _
    cases hc : c.cs x with
    | nil => rw [hc] at h1; cases h1
    | cons y l => rw [hc] at h1; simp only [avL, List.cons.injEq] at h1; exact h1.1
  cs x := by
    show avL (c.cs x) = _
    rw [h.av, he, (h.one x (tb.el i x) (by rw [he]; simp)).1]
  of s x e := by
    unfold cd1 at e
    simp only at e
    split at e
    · rename_i y hy
      cases e
      obtain ⟨l1, h1, -, g⟩ := h.pr _ _ _ hy
      rw [List.append_nil] at h1
      subst h1
      rw [he] at g
      intro m bl v r
      have := g m bl [v] (.cons r .nil)
      cases this with | cons a b => exact a
    · cases e
  ofC l x e := by
    unfold cd1 at e
    simp only at e
    split at e
    · rename_i y hy
      cases e
      obtain ⟨l1, rfl, g1, g⟩ := h.pr _ _ _ hy
      rw [List.append_nil, (h.one x (tb.el i x) (by rw [he]; simp)).1, hs]
      rw [he] at g; exact ⟨g, by rw [g1, hn]⟩
    · cases e
  slC l x e j y hy := by
    unfold cd1 at e
    simp only at e
    split at e
    · rename_i z hz
      cases e
      obtain ⟨l1, rfl, g1, g⟩ := h.pr _ _ _ hz
      refine h.sl _ _ _ hz j y ?_ hy
      rw [List.append_nil] at hy
      rw [← g1]
      rcases Nat.lt_or_ge j l1.length with h | h
      · exact h
      · rw [List.getElem?_eq_none h] at hy; cases hy
    · cases e
  len x := by rw [(h.one x (tb.el i x) (by rw [he]; simp)).1, hs]; rfl
  pos := by rw [hs]; omega
  bare x := by
    obtain ⟨h1, h2, -⟩ := h.one x (tb.el i x) (by rw [he]; simp)
    refine ⟨h2, ?_⟩
    rw [h1]; simpa [cleanL] using h2
  solid x := (h.one x (tb.el i x) (by rw [he]; simp)).2.2
  flat e x := hf e x
  ag x := by
    refine .inr ⟨rfl, (h.one x (tb.el i x) (by rw [he]; simp)).1, ?_⟩
    have h1 := h.av x
    rw [he] at h1
    show c.cs x = [(c.cs x).headD .undef]
    cases hc : c.cs x with
    | nil => rw [hc] at h1; cases h1
    | cons y l =>
      rw [hc] at h1
      simp only [avL, List.cons.injEq] at h1
      cases l with
      | nil => rfl
      | cons z l => exact absurd h1.2 (by simp [avL])
end Go.Rx
end

section
/-
  Contracts; what operands are. No conditions.
-/
set_option linter.all false
namespace Go.Rx
open Go.RowKit
variable [GlC]

section
variable (tb : Tb)
/-- A parameter: plain data; a captured variable, never written again; a function. -/
inductive PTy where
  | d (i : tb.Ix)
  | cap (i : tb.Ix)
  | fn (ps rs : List tb.Ix)
variable {tb}
def PTy.den : PTy tb → Type
  | .d i => tb.T i
  | .cap i => tb.T i
  | .fn ps rs => Tup tb ps → Option (Tup tb rs)
variable (tb)
def PArgs : List (PTy tb) → Type
  | [] => Unit
  | p :: r => p.den × PArgs r
variable {tb}
def ArgR (P : Program) : (p : PTy tb) → p.den → AV → Prop
  | .d i, x, v => v = tb.el i x
  | .cap i, x, v => v = .cptr (tb.el i x).cells
  | .fn ps rs, g, v => ∃ f caps, v = .clo f caps ∧ CloR tb f caps ps rs g
def ArgsR (P : Program) : (l : List (PTy tb)) → PArgs tb l → List AV → Prop
  | [], _, [] => True
  | p :: r, a, v :: vs => ArgR P p a.1 v ∧ ArgsR P r a.2 vs
  | _, _, _ => False

/-- The cells 'own' of a result are slices of new blocks, named from k on. -/
def ownS (own : List Nat) : Nat → Nat → List (SV tb) → List (SV tb) × List (Nat × SC tb)
  | _, _, [] => ([], [])
  | j, k, x :: l => match own.contains j, x with
    | true, .sl _ E xs => (.rw k E :: (ownS own (j + 1) (k + 1) l).1, (k, .arr E xs) :: (ownS own (j + 1) (k + 1) l).2)
    | _, x => (x :: (ownS own (j + 1) k l).1, (ownS own (j + 1) k l).2)
/-- The value of type i with these cells. -/
def wrapS {i : tb.Ix} (c : Cd tb i) (l : List (SV tb)) : SV tb := if c.ag then .agg l else l.headD .undef
variable (tb) in
/-- What a call answers: the value, the blocks that it owns. -/
def ansS (cd : (i : tb.Ix) → Cd tb i) (own : List Nat) : (rs : List tb.Ix) → Tup tb rs → Nat → SV tb × List (Nat × SC tb)
  | [], _, _ => (.tup [], [])
  | [i], x, k => match own with
    | [] => ((cd i).sv x, [])
    | _ :: _ => (wrapS (cd i) (ownS own 0 k ((cd i).cs x)).1, (ownS own 0 k ((cd i).cs x)).2)
  | i :: j :: r, x, _ => (.tup (tupS (i :: j :: r) x), [])
where tupS : (rs : List tb.Ix) → Tup tb rs → List (SV tb)
  | [], _ => []
  | [i], x => [(cd i).sv x]
  | i :: j :: r, x => (cd i).sv x.1 :: tupS (j :: r) x.2

/-- A function's contract. -/
structure Con (P : Program) (tb : Tb) (cd : (i : tb.Ix) → Cd tb i) where
  fid : Nat
  ps : List (PTy tb)
  rs : List tb.Ix
  own : List Nat
  f : PArgs tb ps → Option (Tup tb rs)
  call : ∀ (vs : Array Value) (w : World), (callFunc fid vs).run P w = .ok (.enter fid vs) w
  ok : ∀ a avs r, ArgsR P ps a avs → f a = some r → FnR P fid avs (ansS tb cd own rs r 0).1.av ((ansS tb cd own rs r 0).2.map fun p => (p.1, p.2.av))
/-- What is carried: a slot's value; what the slot's variable holds; an array: of the slot's variable, of the slot's slice, of the slice in cell c of the slot's variable. The cells 'own' are slices of own blocks. -/
inductive JV (tb : Tb) : Type where
  | val (t : Nat) (i : tb.Ix) (own : List Nat)
  | blk (t : Nat) (i : tb.Ix) (own : List Nat)
  | arr (t : Nat) (c : Option Nat) (i : tb.Ix)
  | itr (t : Nat)
/-- What is carried; slots whose blocks are known no more. -/
structure JA (tb : Tb) where
  vars : List (JV tb)
  xdr : List Nat
/-- Where ways meet, and what is carried. -/
inductive An (tb : Tb) : Type where
  | n
  | t (j : Option (JA tb)) (a b : An tb)
/-- What the contract's function computes. -/
def Con.cf {P : Program} {tb : Tb} {cd : (i : tb.Ix) → Cd tb i} (c : Con P tb cd) (a : PArgs tb c.ps) : Option (Tup tb c.rs) := (fun (_ : Unit) => match c, a with | ⟨_, _, _, _, f, _, _⟩, a => f a) hh120
theorem Con.cf_eq {P : Program} {tb : Tb} {cd : (i : tb.Ix) → Cd tb i} (c : Con P tb cd) (a : PArgs tb c.ps) : c.cf a = c.f a := by cases c; rfl
/-- A function that is walked in its caller's state. -/
structure Inl (P : Program) (tb : Tb) where
  fid : Nat
  fn : Func
  code : Code
  im : Nat → Bool
  bar : Nat → Nat
  an : An tb
  hf : P.funcs[fid]? = some fn
  hb : fn.body = some code
  call : ∀ (vs : Array Value) (w : World), (callFunc fid vs).run P w = .ok (.enter fid vs) w
structure EqE (P : Program) (tb : Tb) where
  t : Nat
  i : tb.Ix
  beq : tb.T i → tb.T i → Bool
  ok : EqT P t (tb.el i) beq
/-- A function whose contract was proved by hand. -/
structure Hnd (P : Program) (tb : Tb) where
  fid : Nat
  f : List (SV tb) → Option (SV tb)
  call : ∀ (vs : Array Value) (w : World), (callFunc fid vs).run P w = .ok (.enter fid vs) w
  ok : ∀ xs y, f xs = some y → FnR P fid (avL xs) y.av [] ∧ allBare (avL xs) = true ∧ y.av.isBare = true
structure Ctx (P : Program) (tb : Tb) where
  cd : (i : tb.Ix) → Cd tb i
  ok : ∀ i, CdOk (cd i)
  Γ : List (Con P tb cd)
  inl : List (Inl P tb)
  eqs : List (EqE P tb)
  mixed : P.follows .mixedOrders = true
  hP : tb.P = P
  hnd : List (Hnd P tb)
end

section
variable {P : Program} {tb : Tb}

theorem tupS_av (cd : (i : tb.Ix) → Cd tb i) (ok : ∀ i, CdOk (cd i)) : ∀ (rs : List tb.Ix) (r : Tup tb rs), avL (ansS.tupS tb cd rs r) = tupAV rs r
  | [], _ => rfl
  | [i], x => congrArg (fun a => [a]) ((ok i).sv x)
  | i :: j :: l, x => congr (congrArg List.cons ((ok i).sv x.1)) (tupS_av cd ok (j :: l) x.2)
theorem ansS_av (cd : (i : tb.Ix) → Cd tb i) (ok : ∀ i, CdOk (cd i)) : ∀ (rs : List tb.Ix) (r : Tup tb rs) k, (ansS tb cd [] rs r k).1.av = resAV rs r ∧ (ansS tb cd [] rs r k).2 = []
  | [], _, _ => ⟨rfl, rfl⟩
  | [i], x, _ => ⟨(ok i).sv x, rfl⟩
  | i :: j :: l, x, _ => by
    refine ⟨?_, rfl⟩
    show AV.tup (avL (ansS.tupS tb cd (i :: j :: l) x)) = _
    rw [tupS_av cd ok]
    cases l <;> rfl

/-! the checks that the plain form bears -/
def chk {ρ : Type} (G : Gd) (c : Prop) [Decidable c] (k : Option ρ) : Option ρ := (fun (_ : Unit) => match G with
  | [] => Chk c k
  | _ :: _ => Chk (gc G = true → c) k) hh120
theorem chk_e {ρ : Type} {G : Gd} {c : Prop} [Decidable c] {k : Option ρ} {r : ρ} (h : chk G c k = some r) : (gc G = true → c) ∧ k = some r := by
  cases G with
  | nil =>
    simp only [chk, Chk] at h
    split at h
    · exact ⟨fun _ => ‹_›, h⟩
    · cases h
  | cons g G =>
    simp only [chk, Chk] at h
    split at h
    · exact ⟨‹_›, h⟩
    · cases h
def bnd {α ρ : Type} (G : Gd) (d : α) (m : Option α) (k : α → Option ρ) : Option ρ := (fun (_ : Unit) => match G with
  | [] => Bind m k
  | _ :: _ => Bind (if gc G = true then m else some d) k) hh120
theorem bnd_e {α ρ : Type} {G : Gd} {d : α} {m : Option α} {k : α → Option ρ} {r : ρ} (h : bnd G d m k = some r) : ∃ x, (gc G = true → m = some x) ∧ k x = some r := by
  cases G with
  | nil =>
    simp only [bnd, Bind] at h
    obtain ⟨x, h1, h2⟩ := Option.bind_eq_some_iff.1 h
    exact ⟨x, fun _ => h1, h2⟩
  | cons g G =>
    simp only [bnd, Bind] at h
    obtain ⟨x, h1, h2⟩ := Option.bind_eq_some_iff.1 h
    exact ⟨x, fun hg => by rw [if_pos hg] at h1; exact h1, h2⟩
end
end Go.Rx
end

section
/-
  The operations on bytes and strings in plain words. Conditions: those named in each rule.
-/
set_option linter.all false
namespace Go.Rx
open Go.RowKit
variable [GlC]
def sAV (s : List UInt8) : AV := .v (.string ⟨s.toArray⟩)
def bAV (b : Bool) : AV := .v (.bool b)
def nAV (n : Int) : AV := .v (.int .i64 n)
section
variable {P : Program} {o : Oper} {e : Env}
variable {t yt : TypeId} {y z : Operand} {k : IntKind} {a b : Int} {p q : UInt8} {s r : List UInt8}
theorem toByte_nat (n : Int) : ((toByte n).toNat : Int) = n % 256 := by
  unfold toByte
  have h : (UInt8.ofNat (n % 256).toNat).toNat = (n % 256).toNat % 256 := UInt8.toNat_ofNat'
  rw [h]; omega

theorem byte_eq (p q : UInt8) : ((p.toNat : Int) == (q.toNat : Int)) = (p == q) := by
  rw [Bool.eq_iff_iff]; simp [← UInt8.toNat_inj]; omega
theorem QEx.eqlC (ho : o.op = .binOp .eql t y z yt) (hy : OpdOk e y (byteAV p)) (hz : OpdOk e z (byteAV q)) : QEx P o e [] (bAV (p == q)) := by
  rw [← byte_eq]; exact QEx.binI ho hy hz rfl
theorem QEx.neqC (ho : o.op = .binOp .neq t y z yt) (hy : OpdOk e y (byteAV p)) (hz : OpdOk e z (byteAV q)) : QEx P o e [] (bAV (p != q)) := by
  show QEx P o e [] (bAV (!(p == q))); rw [← byte_eq]; exact QEx.binI ho hy hz rfl
theorem byte_lt' (p q : UInt8) : decide ((p.toNat : Int) < (q.toNat : Int)) = decide (p < q) := by
  rw [Bool.eq_iff_iff]; simp [UInt8.lt_iff_toNat_lt]
theorem byte_le' (p q : UInt8) : decide ((p.toNat : Int) ≤ (q.toNat : Int)) = decide (p ≤ q) := by
  rw [Bool.eq_iff_iff]; simp [UInt8.le_iff_toNat_le]
theorem QEx.lssC (ho : o.op = .binOp .lss t y z yt) (hy : OpdOk e y (byteAV p)) (hz : OpdOk e z (byteAV q)) : QEx P o e [] (bAV (decide (p < q))) := by
  rw [← byte_lt']; exact QEx.binI ho hy hz rfl
theorem QEx.leqC (ho : o.op = .binOp .leq t y z yt) (hy : OpdOk e y (byteAV p)) (hz : OpdOk e z (byteAV q)) : QEx P o e [] (bAV (decide (p ≤ q))) := by
  rw [← byte_le']; exact QEx.binI ho hy hz rfl
theorem QEx.gtrC (ho : o.op = .binOp .gtr t y z yt) (hy : OpdOk e y (byteAV p)) (hz : OpdOk e z (byteAV q)) : QEx P o e [] (bAV (decide (q < p))) := by
  rw [← byte_lt']; exact QEx.binI ho hy hz rfl
theorem QEx.geqC (ho : o.op = .binOp .geq t y z yt) (hy : OpdOk e y (byteAV p)) (hz : OpdOk e z (byteAV q)) : QEx P o e [] (bAV (decide (q ≤ p))) := by
  rw [← byte_le']; exact QEx.binI ho hy hz rfl
theorem wrap_u8 (n : Int) : IntKind.u8.wrap n = n % 256 := by simp [IntKind.wrap, IntKind.bits, IntKind.signed]
theorem byteAV_wrap {c : UInt8} {n : Int} (h : (c.toNat : Int) = n % 256) : byteAV c = .v (.int .u8 (IntKind.u8.wrap n)) := by
  rw [wrap_u8, ← h]; rfl
theorem QEx.addC (ho : o.op = .binOp .add t y z yt) (hy : OpdOk e y (byteAV p)) (hz : OpdOk e z (byteAV q)) : QEx P o e [] (byteAV (p + q)) := by
  rw [byteAV_wrap (n := (p.toNat : Int) + q.toNat) (by rw [UInt8.toNat_add]; omega)]; exact QEx.binI ho hy hz rfl
theorem QEx.subC (ho : o.op = .binOp .sub t y z yt) (hy : OpdOk e y (byteAV p)) (hz : OpdOk e z (byteAV q)) : QEx P o e [] (byteAV (p - q)) := by
  rw [byteAV_wrap (n := (p.toNat : Int) - q.toNat) (by rw [UInt8.toNat_sub]; have := p.toNat_lt; have := q.toNat_lt; omega)]; exact QEx.binI ho hy hz rfl
theorem QEx.remC (ho : o.op = .binOp .rem t y z yt) (hy : OpdOk e y (byteAV p)) (hz : OpdOk e z (byteAV q)) (h : q ≠ 0) : QEx P o e [] (byteAV (p % q)) := by
  have hq : (q.toNat : Int) ≠ 0 := by
    intro h'; apply h; exact UInt8.toNat_inj.1 (by simpa using h')
  have := QEx.rem (P := P) ho hy hz hq
  have e : ((p.toNat : Int)).tmod (q.toNat : Int) = ((p % q).toNat : Int) := by rw [UInt8.toNat_mod]; exact (Int.ofNat_tmod _ _).symm
  rw [e] at this; exact this

theorem QEx.cvKC {s d y k' n} (ho : o.op = .convert s d y) (hd : P.underlying d = some (.int .u8)) (hs : (P.underlying s).isSome = true) (hy : OpdOk e y ((.v (.int k' n)))) : QEx P o e [] (byteAV (toByte n)) := by
  rw [byteAV_wrap (toByte_nat n)]; exact QEx.convI ho hd hs hy
theorem wrap_small {k : IntKind} (hk : k = .i64 ∨ k = .u64 ∨ k = .i32 ∨ k = .u32 ∨ k = .u16 ∨ k = .i16) (c : UInt8) : k.wrap (c.toNat : Int) = c.toNat := by
  have := c.toNat_lt
  rcases hk with rfl | rfl | rfl | rfl | rfl | rfl <;> simp [IntKind.wrap, IntKind.bits, IntKind.signed] <;> omega
theorem QEx.cvCK {s d y k} (ho : o.op = .convert s d y) (hd : P.underlying d = some (.int k)) (hs : (P.underlying s).isSome = true) (hy : OpdOk e y (byteAV p)) (hk : k = .i64 ∨ k = .u64 ∨ k = .i32 ∨ k = .u32 ∨ k = .u16 ∨ k = .i16) : QEx P o e [] (.v (.int k (p.toNat : Int))) := by
  have := QEx.convI (P := P) ho hd hs hy
  rw [wrap_small hk] at this; exact this
theorem QEx.eqlS (ho : o.op = .binOp .eql t y z yt) (hy : OpdOk e y (sAV s)) (hz : OpdOk e z (sAV r)) : QEx P o e [] (bAV (s == r)) := by
  rw [← str_beq]; exact QEx.binS ho hy hz rfl
theorem QEx.neqS (ho : o.op = .binOp .neq t y z yt) (hy : OpdOk e y (sAV s)) (hz : OpdOk e z (sAV r)) : QEx P o e [] (bAV (s != r)) := by
  show QEx P o e [] (bAV (!(s == r))); rw [← str_beq]; exact QEx.binS ho hy hz rfl
theorem QEx.lssS (ho : o.op = .binOp .lss t y z yt) (hy : OpdOk e y (sAV s)) (hz : OpdOk e z (sAV r)) : QEx P o e [] (bAV (strLess s r)) := by
  have : strLess s r = Op.bytesLess (ByteArray.mk s.toArray).toList (ByteArray.mk r.toArray).toList := by rw [ByteArray.toList_mk, ByteArray.toList_mk]; rfl
  rw [this]; exact QEx.binS ho hy hz rfl
theorem QEx.addS (ho : o.op = .binOp .add t y z yt) (hy : OpdOk e y (sAV s)) (hz : OpdOk e z (sAV r)) (h : s.length + r.length ≤ 9223372036854775807) : QEx P o e [] (sAV (s ++ r)) := by
  have := QEx.catS (P := P) ho hy hz (by simpa [ByteArray.size] using h)
  rw [str_app] at this; exact this
theorem QEx.lenStr {y t} (ho : o.op = .call { callee := .builtin .len, args := #[y], argTypes := #[t] }) (ht : P.underlying t = some .string) (hy : OpdOk e y (sAV s)) : QEx P o e [] (nAV s.length) := by
  have := QEx.lenS (P := P) ho ht hy
  have e : (ByteArray.mk s.toArray).size = s.length := by simp [ByteArray.size]
  rw [e] at this; exact this
theorem QEx.idxS {t y z k i} (ho : o.op = .index t y z) (ht : P.underlying t = some .string) (hy : OpdOk e y (sAV s)) (hz : OpdOk e z ((.v (.int k i)))) (h : 0 ≤ i ∧ i < s.length) : QEx P o e [] (byteAV (ix s i)) :=
  .pure fun _ _ _ m bl ac w hws _ hr => by
    have h1 := (hy.rep hr (by simp [ho, Op.operands])).eq_v
    have h2 := (hz.rep hr (by simp [ho, Op.operands])).eq_v
    refine ⟨.int .u8 (ix s i).toNat, ?_, .v⟩
    have hlt : i.toNat < s.length := by omega
    have hb : (⟨s.toArray⟩ : ByteArray)[i.toNat]? = some (ix s i) := by
      have hlt2 : i.toNat < (⟨s.toArray⟩ : ByteArray).size := by simpa [ByteArray.size] using hlt
      rw [getElem?_pos (⟨s.toArray⟩ : ByteArray) i.toNat hlt2]
      simp only [ix, List.getD, List.getElem?_eq_getElem hlt, Option.getD_some, Option.some.injEq]
      rfl
    simp [execOp, ho, h1, h2, Instr.index, asIntOf, run_underlying_of ht, h.1, hb]

theorem QEx.slStr {t y lo hi a b} (ho : o.op = .slice t y lo hi none) (ht : P.underlying t = some .string) (hy : OpdOk e y (sAV s))
    (hlo : BoundOk e lo 0 a) (hhi : BoundOk e hi s.length b) (hab : a ≤ b ∧ b ≤ s.length) : QEx P o e [] (sAV ((s.drop a).take (b - a))) :=
  .pure fun _ _ _ m bl ac w hws _ hr => by
    have h1 := (hy.rep hr (by simp [ho, Op.operands])).eq_v
    have hsz : (⟨s.toArray⟩ : ByteArray).size = s.length := by simp [ByteArray.size]
    have e1 : (Instr.sliceBounds false s.length s.length (lo.map ac.eval) (hi.map ac.eval) none).run P w = .ok (a, b, s.length) w := by
      cases hlo with
      | none =>
        cases hhi with
        | none => simp [Instr.sliceBounds]
        | some h2 h3 =>
          have := (h2.rep hr (by simp [ho, Op.operands])).eq_v
          rename_i k i
          have hi' : i ≤ (s.length : Int) := by omega
          simp [Instr.sliceBounds, this, Instr.sliceBound, asIntOf, h3, hi']
      | some g2 g3 =>
        have hg := (g2.rep hr (by simp [ho, Op.operands])).eq_v
        rename_i gk gi
        cases hhi with
        | none =>
          have hi' : gi ≤ (s.length : Int) := by omega
          simp [Instr.sliceBounds, hg, Instr.sliceBound, asIntOf, g3, hi']
        | some h2 h3 =>
          have := (h2.rep hr (by simp [ho, Op.operands])).eq_v
          rename_i k i
          have hi' : i ≤ (s.length : Int) := by omega
          have hg' : gi ≤ i := by omega
          have hm : max i 0 = i := by omega
          simp [Instr.sliceBounds, this, hg, Instr.sliceBound, asIntOf, h3, hi', g3, hg', hm]
    refine ⟨.string ⟨((s.drop a).take (b - a)).toArray⟩, ?_, .v⟩
    rw [← str_extract]
    simp only [execOp, ho, h1, Instr.sliceAt, Sem.run_bind, run_underlying_of ht, Result.andThen_ok, Instr.slice, Option.map_none, hsz, e1, Sem.run_pure, Option.isSome_none, Bool.false_eq_true, if_false]
end
end Go.Rx
end

section
/-
  Slices with three bounds whose value does not count; slices of what is no plain data, made of own cells. Conditions: those named in each rule.
-/
set_option linter.all false
namespace Go.Rx
open Go.RowKit
variable [GlC]
section
variable {P : Program} {o : Oper} {e : Env}
/-- s[lo:hi:max]: it does not fail. -/
theorem QEx.slice3U {t y lo hi mx E sz by_ id off len mc need k1 k2 k3 a b c} (ho : o.op = .slice t y (some lo) (some hi) (some mx)) (ht : ElemT P t E sz by_) (hy : ROk o e need y (.row id off len mc sz))
    (hlo : OpdOk e lo (.v (.int k1 a))) (hhi : OpdOk e hi (.v (.int k2 b))) (hmx : OpdOk e mx (.v (.int k3 c))) (h : 0 ≤ a ∧ a ≤ b ∧ b ≤ c ∧ c ≤ mc) : QEx P o e need .undef :=
  .pure fun _ _ _ m bl ac w hws hnd hr => by
    have h1 := hy _ _ _ _ _ _ _ hws hnd hr
    have q1 := (hlo.rep hr (by simp [ho, Op.operands])).eq_v
    have q2 := (hhi.rep hr (by simp [ho, Op.operands])).eq_v
    have q3 := (hmx.rep hr (by simp [ho, Op.operands])).eq_v
    generalize hv : ac.eval y = v at h1
    have e1 : ∀ cap : Nat, mc ≤ cap → (Instr.sliceBounds true len cap (some (ac.eval lo)) (some (ac.eval hi)) (some (ac.eval mx))).run P w = .ok (a.toNat, b.toNat, c.toNat) w := by
      intro cap hc
      have c1 : c ≤ (cap : Int) := by omega
      have c2 : 0 ≤ c := by omega
      have c3 : 0 ≤ b := by omega
      have hm : max c 0 = c := by omega
      have hm2 : max b 0 = b := by omega
      simp [Instr.sliceBounds, q1, q2, q3, Instr.sliceBound, asIntOf, c1, c2, c3, hm, hm2, h.1, h.2.1, h.2.2.1]
    cases h1 with
    | rownil =>
      rename_i ad
      refine ⟨.slice (if c.toNat = a.toNat then ad else ad.map (·.add (a.toNat * sz))) (b.toNat - a.toNat) (c.toNat - a.toNat), ?_, .undef⟩
      have := e1 0 (Nat.le_refl _)
      simp only [execOp, ho, hv, Instr.sliceAt, Sem.run_bind, run_underlying_of ht.under, Result.andThen_ok, Instr.slice, Option.map_some, this, run_sizeOf_of ht.sz, Sem.run_pure]
    | row hb' g1 g2 g3 =>
      rename_i bb n cap
      refine ⟨.slice (if c.toNat = a.toNat then some ⟨bb, off, none⟩ else (some (⟨bb, off, none⟩ : Addr)).map (·.add (a.toNat * sz))) (b.toNat - a.toNat) (c.toNat - a.toNat), ?_, .undef⟩
      have := e1 cap g2
      simp only [execOp, ho, hv, Instr.sliceAt, Sem.run_bind, run_underlying_of ht.under, Result.andThen_ok, Instr.slice, Option.map_some, this, run_sizeOf_of ht.sz, Sem.run_pure]
/-- A slice made of cells that may name own blocks. -/
theorem LEx.buildOwn {ops : Array Oper} {N : Nat} {t E sz by_ n d nm ps Z} (hg : o.guard = none) (hd : o.dst = some d) (hN : d < N) (ho : o.op = .buildSlice t n ps) (ht : ElemT P t E sz by_)
    (h : FillOk e (fun i => some (i * sz, sz)) ps.toList (List.replicate (n * sz) AV.undef) Z) (hlen : Z.length = n * sz) (hn : 0 < n) (hlim : n * sz ≤ 2 ^ 24) :
    LEx P ops N o ⟨reOf e (o.looksAt ops), [], [(d, .rw nm sz)], [(nm, .cells Z)], [nm]⟩ := by
  refine .newOwn hg hd hN fun m bl a w hr => ?_
  obtain ⟨i, z, hi1, hi2, hi3, hi4, hi5, hi6⟩ := ht.info
  have h0 : ¬ n * sz = 0 := by
    have := Nat.mul_pos hn ht.pos
    omega
  have hZ : ∃ zs : Array Value, zs.size = n * sz ∧ (∀ c ∈ zs.toList, oneCell c = true) ∧ zs = rangeFill z.cells (n * sz) := by
    refine ⟨_, by simp [rangeFill], ?_, rfl⟩
    intro c hc
    simp only [rangeFill, Array.toList_map, Array.toList_range, List.mem_map, List.mem_range] at hc
    obtain ⟨j, hj, rfl⟩ := hc
    have hlt : j % z.cells.size < z.cells.size := Nat.mod_lt _ (by rw [hi5]; exact ht.pos)
    rw [getElem!_pos z.cells _ hlt]
    exact List.all_eq_true.1 hi6 _ (by simp)
  obtain ⟨zs, hz1, hz2, hz3⟩ := hZ
  obtain ⟨cells', k1, k2, k3⟩ := h.run (o := o) hr (fun p hp => by rw [ho]; simp only [Op.operands]; simp; exact ⟨p.1, by simpa using hp⟩) zs
    (by
      have : ∀ (vs : List Value), Reps m bl (List.replicate vs.length AV.undef) vs := by
        intro vs; induction vs with
        | nil => exact .nil
        | cons v vs ih => exact .cons .undef ih
      have := this zs.toList
      rwa [Array.length_toList, hz1] at this) hz2
  have hcl : cells'.toList.length = n * sz := by rw [← k2.length, hlen]
  have hrun : (execOp a.eval o).run P w = .ok (.value (.slice (some ⟨w.heap.size, 0, none⟩) n n)) (w.alloc (.cells cells' E)) := by
    have hlim' : ¬ (2 ^ 24 < n * sz) := by omega
    have k1' : Instr.fill (fun i => some (i * sz, sz)) zs (ps.map fun (i, x) => (i, a.eval x)).toList = some cells' := by simpa using k1
    subst hz3
    unfold rangeFill at k1'
    simp at k1'
    simp only [execOp, ho, Instr.buildSlice, Sem.run_bind, run_underlying_of ht.under, Result.andThen_ok, run_sizeOf_of ht.sz]
    simp [hlim', h0, zeroValue, typeInfo, hi1, hi2, k1', newRow]
  refine ⟨_, cells', E, cells'.toList, [], hrun, by simp, k2, k3, fun bl' hb => ?_⟩
  exact .rw hb (by rw [hcl]) (Nat.le_refl _) (by rw [← Array.length_toList, hcl]; exact Nat.le_refl _)
end
end Go.Rx
end

section
/-
  Symbolic states; what operands are. No conditions.
-/
set_option linter.all false
namespace Go.Rx
open Go.RowKit
variable [GlC]

/-- What became of a name that is no more: nothing is known; its block is written no more. -/
inductive Gone (tb : Tb) : Type where
  | drop
  | fz (c : SC tb)
abbrev Gn (tb : Tb) := List (Nat × Gone tb)
abbrev SEnv (tb : Tb) := List (Nat × SV tb)
abbrev SHp (tb : Tb) := List (Nat × SC tb)

section
variable {tb : Tb}
def resP (g : Option (Gone tb)) (id off : Nat) : SV tb := match g with
  | none => .ptr id off
  | some (.fz (.cells l)) => .cp (l.drop off)
  | some _ => .undef
def resE (g : Option (Gone tb)) (id : Nat) (E : tb.Ix) (i : Int) (fo : Nat) : SV tb := match g with
  | none => .epr id E i fo
  | some _ => .undef
def resR (g : Option (Gone tb)) (id : Nat) (E : tb.Ix) (off len mc : Nat) : SV tb := match g with
  | none => .row id E off len mc
  | some _ => .undef
def resW (g : Option (Gone tb)) (id : Nat) (E : tb.Ix) : SV tb := match g with
  | none => .rw id E
  | some (.fz (.arr E' l)) => (match tb.dec E' E with | isTrue h => .sl false E (h ▸ l) | isFalse _ => .undef)
  | some _ => .undef
mutual
/-- The value as it stands. -/
def SV.res (g : Gn tb) : SV tb → SV tb
  | .undef => .undef
  | .i k n => .i k n
  | .b8 c => .b8 c
  | .bo b => .bo b
  | .st s => .st s
  | .con x => .con x
  | .agg l => .agg (resL g l)
  | .tup l => .tup (resL g l)
  | .sl c E l => .sl c E l
  | .em E => .em E
  | .cp l => .cp l
  | .fn f l => .fn f (resL g l)
  | .ptr id off => resP (find id g) id off
  | .epr id E i fo => resE (find id g) id E i fo
  | .row id E off len mc => resR (find id g) id E off len mc
  | .rw id E => resW (find id g) id E
  | .opt G x => .opt G (x.res g)
  | .cl ps rs f i caps h => .cl ps rs f i caps h
  | .ifc t x => .ifc t (x.res g)
def resL (g : Gn tb) : List (SV tb) → List (SV tb)
  | [] => []
  | x :: l => x.res g :: resL g l
end
def SC.res (g : Gn tb) : SC tb → SC tb
  | .cells l => .cells (resL g l)
  | .arr E l => .arr E l
  | .iter s p => .iter s p
mutual
/-- Bears only names that the test lets through. -/
def SV.has (q : Nat → Bool) : SV tb → Bool
  | .agg l => hasL q l
  | .tup l => hasL q l
  | .fn _ l => hasL q l
  | .ptr id _ => q id
  | .epr id _ _ _ => q id
  | .row id _ _ _ _ => q id
  | .rw id _ => q id
  | .opt _ x => x.has q
  | .ifc _ x => x.has q
  | .cl _ _ _ _ _ _ => true
  | .undef => true
  | .i _ _ => true
  | .b8 _ => true
  | .bo _ => true
  | .st _ => true
  | .con _ => true
  | .sl _ _ _ => true
  | .em _ => true
  | .cp _ => true
def hasL (q : Nat → Bool) : List (SV tb) → Bool
  | [] => true
  | x :: l => match x.has q with | true => hasL q l | false => false
end
def SC.has (q : Nat → Bool) : SC tb → Bool
  | .cells l => hasL q l
  | .arr _ _ => true
  | .iter _ _ => true
theorem hasL_cons {q : Nat → Bool} {x : SV tb} {l} : hasL q (x :: l) = (x.has q && hasL q l) := by simp only [hasL]; cases x.has q <;> rfl

def keepQ (g : Gn tb) (id : Nat) : Bool := match find id g with | none => true | some _ => false
theorem keepQ_e {g : Gn tb} {id} (h : keepQ g id = true) : find id g = none := by
  unfold keepQ at h; split at h
  · assumption
  · cases h
mutual
theorem res_keep {g : Gn tb} : ∀ {x : SV tb}, x.has (keepQ g) = true → x.res g = x
  | .undef, _ => rfl
  | .i _ _, _ => rfl
  | .b8 _, _ => rfl
  | .bo _, _ => rfl
  | .st _, _ => rfl
  | .con _, _ => rfl
  | .agg l, h => by simp only [SV.res]; rw [resL_keep (l := l) h]
  | .tup l, h => by simp only [SV.res]; rw [resL_keep (l := l) h]
  | .sl _ _ _, _ => rfl
  | .em _, _ => rfl
  | .cp _, _ => rfl
  | .fn _ l, h => by simp only [SV.res]; rw [resL_keep (l := l) h]
  | .ptr id off, h => by simp only [SV.res]; rw [keepQ_e (g := g) (id := id) h]; rfl
  | .epr id E i fo, h => by simp only [SV.res]; rw [keepQ_e (g := g) (id := id) h]; rfl
  | .row id E off len mc, h => by simp only [SV.res]; rw [keepQ_e (g := g) (id := id) h]; rfl
  | .rw id E, h => by simp only [SV.res]; rw [keepQ_e (g := g) (id := id) h]; rfl
  | .opt _ x, h => by simp only [SV.res]; rw [res_keep (x := x) h]
  | .cl _ _ _ _ _ _, _ => rfl
  | .ifc _ x, h => by simp only [SV.res]; rw [res_keep (x := x) h]
theorem resL_keep {g : Gn tb} : ∀ {l : List (SV tb)}, hasL (keepQ g) l = true → resL g l = l
  | [], _ => rfl
  | x :: l, h => by
    rw [hasL_cons, Bool.and_eq_true] at h
    simp only [resL]; rw [res_keep h.1, resL_keep h.2]
end

/-- The slots, the callers' slots, the own blocks, the next name, the names that are no more. -/
structure SLS (tb : Tb) where
  e : SEnv tb
  s : List (SEnv tb)
  h : SHp tb
  nx : Nat
  gn : Gn tb
def avE (g : Gn tb) (e : SEnv tb) : Env := e.map fun p => (p.1, (p.2.res g).av)
def avH (g : Gn tb) (h : SHp tb) : Hp := (h.filter fun p => keepQ g p.1).map fun p => (p.1, (p.2.res g).av)
def SLS.E (L : SLS tb) : Env := avE L.gn L.e
def SLS.av (L : SLS tb) : LS := ⟨avE L.gn L.e, L.s.map (avE L.gn), avH L.gn L.h, fun d => L.nx ≤ d⟩
theorem find_avE {g : Gn tb} {e : SEnv tb} {t} : find t (avE g e) = (find t e).map fun x => (x.res g).av := find_map (fun x : SV tb => (x.res g).av) t e
theorem find_avH {g : Gn tb} {h : SHp tb} {t} : find t (avH g h) = if keepQ g t then (find t h).map fun b => (b.res g).av else none := by
  unfold avH
  rw [find_map (fun b : SC tb => (b.res g).av), find_filter (keepQ g)]
  split <;> rfl

/-- Own blocks that an operation looks at. -/
def needAV (L : SLS tb) : List Nat → List (Nat × List AV)
  | [] => []
  | id :: r => match find id (avH L.gn L.h) with
    | some (.cells l) => (id, l) :: needAV L r
    | _ => needAV L r
theorem needAV_mem {L : SLS tb} : ∀ {ids}, ∀ p ∈ needAV L ids, find p.1 L.av.h = some (.cells p.2)
  | [], p, h => by simp [needAV] at h
  | id :: r, p, h => by
    simp only [needAV] at h
    split at h
    · rename_i l hl
      rcases List.mem_cons.1 h with rfl | h
      · exact hl
      · exact needAV_mem p h
    · exact needAV_mem p h

/-! the checks -/
def cellsAt (L : SLS tb) (id : Nat) : Option (List (SV tb)) := match keepQ L.gn id with
  | true => (match find id L.h with | some (.cells l) => some (resL L.gn l) | _ => none)
  | false => none
theorem cellsAt_e {L : SLS tb} {id l} (h : cellsAt L id = some l) : find id (avH L.gn L.h) = some (.cells (avL l)) := by
  unfold cellsAt at h
  split at h
  · rename_i hk
    split at h
    · rename_i l' hf; cases h
      rw [find_avH, if_pos hk, hf]; rfl
    · cases h
  · cases h
def arrAt (L : SLS tb) (id : Nat) (E : tb.Ix) : Option (List (tb.T E)) := match keepQ L.gn id with
  | true => (match find id L.h with | some (.arr E' l) => (match tb.dec E' E with | isTrue h => some (h ▸ l) | isFalse _ => none) | _ => none)
  | false => none
theorem arrAt_e {L : SLS tb} {id E l} (h : arrAt L id E = some l) : find id (avH L.gn L.h) = some (.cells (elC tb E l)) := by
  unfold arrAt at h
  split at h
  · rename_i hk
    split at h
    · rename_i E' l' hf
      split at h
      · rename_i hE _; subst hE; cases h
        rw [find_avH, if_pos hk, hf]; rfl
      · cases h
    · cases h
  · cases h
theorem needAV_one {L : SLS tb} {id l} (h : find id (avH L.gn L.h) = some (.cells l)) : needAV L [id] = [(id, l)] := by
  simp [needAV, h]

/-! operands under guards -/
def gEq : Gd → Gd → Bool
  | [], [] => true
  | (s, w, _) :: G, (s', w', _) :: G' => Nat.beq s s' && (w == w') && gEq G G'
  | _, _ => false
/-- Is the guard G' an outer part of G? -/
def gSuf (G' : Gd) : Gd → Bool
  | [] => gEq G' []
  | g :: G => gEq G' (g :: G) || gSuf G' G
def boolOf : SV tb → Option Bool
  | .bo t => some t
  | .con (.bool t) => some t
  | _ => none
/-- What the operand is under the guard G. -/
def opd (L : SLS tb) (G : Gd) : Operand → Option (SV tb)
  | .tmp t => match find t L.e with
    | some (.opt G' x) => (match gSuf G' G with | true => some (x.res L.gn) | false => none)
    | some x => some (x.res L.gn)
    | none => none
  | .const v => some (.con v)
  | .func f => some (.fn f [])
  | .global _ => none

/-- The guard G is what e's slots yield. -/
def GD (e : SEnv tb) : Gd → Prop
  | [] => True
  | (s, w, t) :: G => GD e G ∧ ∃ y, boolOf y = some t ∧ ((find s e = some y ∧ G = []) ∨ (find s e = some (.opt G y) ∧ G ≠ []))
def GInv (e : SEnv tb) : Prop := ∀ t G x, find t e = some (.opt G x) → GD e G ∧ G ≠ []

theorem gEq_of {e : SEnv tb} : ∀ {G G' : Gd}, GD e G → GD e G' → gEq G' G = true → G' = G
  | [], [], _, _, _ => rfl
  | [], _ :: _, _, _, h => by simp [gEq] at h
  | _ :: _, [], _, _, h => by simp [gEq] at h
  | (s, w, t) :: G, (s', w', t') :: G', h, h', hq => by
    simp only [gEq, Bool.and_eq_true, Nat.beq_eq, beq_iff_eq] at hq
    obtain ⟨⟨rfl, rfl⟩, hq⟩ := hq
    obtain ⟨h1, y, hy, h2⟩ := h
    obtain ⟨h1', y', hy', h2'⟩ := h'
    obtain rfl := gEq_of h1 h1' hq
    have : y = y' := by
      rcases h2 with ⟨h2, h3⟩ | ⟨h2, h3⟩ <;> rcases h2' with ⟨h2', h3'⟩ | ⟨h2', h3'⟩
      · rw [h2] at h2'; cases h2'; rfl
      · exact absurd h3 h3'
      · exact absurd h3' h3
      · rw [h2] at h2'; cases h2'; rfl
    subst this
    rw [hy] at hy'; cases hy'; rfl
theorem gSuf_of {e : SEnv tb} : ∀ {G G' : Gd}, GD e G → GD e G' → gSuf G' G = true → gc G = true → gc G' = true
  | [], G', h, h', hs, hg => by
    have : gEq G' [] = true := hs
    cases G' with
    | nil => rfl
    | cons => simp [gEq] at this
  | g :: G, G', h, h', hs, hg => by
    simp only [gSuf, Bool.or_eq_true] at hs
    rcases hs with hs | hs
    · rw [gEq_of h h' hs]; exact hg
    · obtain ⟨s, w, t⟩ := g
      refine gSuf_of h.1 h' hs ?_
      rw [gc_eq] at hg ⊢
      simp only [gc0, Bool.and_eq_true] at hg
      exact hg.1

/-- What operations are told of: the guard G, which is wanted. -/
structure Gu (L : SLS tb) (G : Gd) : Prop where
  inv : GInv L.e
  gd : GD L.e G
  on : gc G = true
theorem opd_ok {L : SLS tb} {G : Gd} {y x} (u : Gu L G) (h : opd L G y = some x) : OpdOk L.E y x.av := by
  intro m bl a hr
  cases y with
  | tmp t =>
    simp only [opd] at h
    have hf : ∀ z, find t L.e = some z → Rep m bl (z.res L.gn).av (a.tmps.getD t undef) := fun z hz => hr t rfl _ (by unfold SLS.E; rw [find_avE, hz]; rfl)
    split at h
    · rename_i G' x' hf'
      split at h
      · rename_i hs
        cases h
        exact (hf _ hf').eq_opt.1 (gSuf_of u.gd (u.inv t G' x' hf').1 hs u.on)
      · cases h
    · rename_i z hne hz
      cases h
      exact hf _ hz
    · cases h
  | const v => cases h; exact .v
  | func f => cases h; exact .clo .nil
  | global g => cases h

theorem boolOf_av {y : SV tb} {t} (h : boolOf y = some t) : y.av = .v (.bool t) := by
  unfold boolOf at h
  split at h
  · cases h; rfl
  · cases h; rfl
  · cases h
theorem boolOf_res {g : Gn tb} {y : SV tb} {t} (h : boolOf y = some t) : y.res g = y := by
  unfold boolOf at h
  split at h
  · rfl
  · rfl
  · cases h
/-- The guard's slot. -/
theorem GD.gv {L : SLS tb} {s w t G} (h : GD L.e ((s, w, t) :: G)) : GV L.E s (gc G) t := by
  obtain ⟨h1, y, hy, h2⟩ := h
  have hav := boolOf_av hy
  have hres := boolOf_res (g := L.gn) hy
  rcases h2 with ⟨h2, rfl⟩ | ⟨h2, h3⟩
  · exact .inl ⟨by unfold SLS.E; rw [find_avE, h2]; simp [hres, hav], rfl⟩
  · refine .inr ?_
    unfold SLS.E
    rw [find_avE, h2]
    simp [SV.res, SV.av, hres, hav]
end
end Go.Rx
end

section
/-
  Operations that only yield a value, run on symbolic values: arithmetic, conversions, picks. No conditions.
-/
set_option linter.all false
namespace Go.Rx
open Go.RowKit
variable [GlC]

def got {α ρ : Type} (m : Option α) (k : α → Option ρ) : Option ρ := (fun (_ : Unit) => match m with | some a => k a | none => none) hh120
theorem got_e {α ρ : Type} {m : Option α} {k : α → Option ρ} {r : ρ} (h : got m k = some r) : ∃ a, m = some a ∧ k a = some r := by
  unfold got at h; split at h
  · exact ⟨_, rfl, h⟩
  · cases h
def tst {ρ : Type} (b : Bool) (k : Option ρ) : Option ρ := (fun (_ : Unit) => match b with | true => k | false => none) hh120
theorem tst_e {ρ : Type} {b : Bool} {k : Option ρ} {r : ρ} (h : tst b k = some r) : b = true ∧ k = some r := by
  unfold tst at h; split at h
  · exact ⟨rfl, h⟩
  · cases h

section
variable {P : Program} {tb : Tb} {ρ : Type}
/-- The operation yields x, and it goes on with that. -/
def QOk (P : Program) (L : SLS tb) (G : Gd) (o : Oper) (k : SV tb → List Nat → Option ρ) (r : ρ) : Prop :=
  ∃ x need, k x need = some r ∧ (Gu L G → QEx P o L.E (needAV L need) x.av)

def asI : SV tb → Option (IntKind × Int)
  | .i k n => some (k, n)
  | .con (.int k n) => some (k, n)
  | _ => none
theorem asI_e {x : SV tb} {p} (h : asI x = some p) : x.av = .v (.int p.1 p.2) := by
  unfold asI at h; split at h
  · cases h; rfl
  · cases h; rfl
  · cases h
def isByte (n : Int) : Bool := match n with | .ofNat m => Nat.blt m 256 | .negSucc _ => false
theorem isByte_e {n : Int} (h : isByte n = true) : 0 ≤ n ∧ n < 256 := by
  unfold isByte at h; split at h
  · have := Nat.le_of_ble_eq_true h
    simp; omega
  · cases h
def asC : SV tb → Option UInt8
  | .b8 c => some c
  | .con (.int .u8 n) => (match isByte n with | true => some (toByte n) | false => none)
  | _ => none
theorem asC_e {x : SV tb} {c} (h : asC x = some c) : x.av = byteAV c := by
  unfold asC at h; split at h
  · cases h; rfl
  · split at h
    · rename_i hb; cases h
      show AV.v _ = byteAV _
      unfold byteAV; rw [toByte_toNat (isByte_e hb)]
    · cases h
  · cases h
theorem boolOf_e {x : SV tb} {b} (h : boolOf x = some b) : x.av = bAV b := boolOf_av h
def asS : SV tb → Option (List UInt8)
  | .st s => some s
  | .con (.string s) => some s.data.toList
  | _ => none
theorem asS_e {x : SV tb} {s} (h : asS x = some s) : x.av = sAV s := by
  unfold asS at h; split at h
  · cases h; rfl
  · cases h; show AV.v _ = AV.v _; rw [str_mk]
  · cases h

/-- Is n known, and is it not 0? -/
def nz (x : SV tb) (G : Gd) (n : Int) (k : Option ρ) : Option ρ := match x with
  | .con _ => tst (decide (n ≠ 0)) k
  | _ => chk G (n ≠ 0) k
theorem nz_e {x : SV tb} {G n} {k : Option ρ} {r} (h : nz x G n k = some r) : (gc G = true → n ≠ 0) ∧ k = some r := by
  unfold nz at h; split at h
  · obtain ⟨h1, h⟩ := tst_e h; exact ⟨fun _ => of_decide_eq_true h1, h⟩
  · exact chk_e h
def nn (x : SV tb) (G : Gd) (n : Int) (k : Option ρ) : Option ρ := match x with
  | .con _ => tst (decide (0 ≤ n)) k
  | _ => chk G (0 ≤ n) k
theorem nn_e {x : SV tb} {G n} {k : Option ρ} {r} (h : nn x G n k = some r) : (gc G = true → 0 ≤ n) ∧ k = some r := by
  unfold nn at h; split at h
  · obtain ⟨h1, h⟩ := tst_e h; exact ⟨fun _ => of_decide_eq_true h1, h⟩
  · exact chk_e h

def binInt (G : Gd) (op : BinOp) (z : SV tb) (ki : IntKind) (a b : Int) (k : SV tb → List Nat → Option ρ) : Option ρ := match op with
  | .add => Let (ki.wrap (a + b)) fun n => k (.i ki n) []
  | .sub => Let (ki.wrap (a - b)) fun n => k (.i ki n) []
  | .mul => Let (ki.wrap (a * b)) fun n => k (.i ki n) []
  | .and => Let (bAnd ki a b) fun n => k (.i ki n) []
  | .or => Let (bOr ki a b) fun n => k (.i ki n) []
  | .xor => Let (bXor ki a b) fun n => k (.i ki n) []
  | .eql => Let (a == b) fun t => k (.bo t) []
  | .neq => Let (a != b) fun t => k (.bo t) []
  | .lss => Let (decide (a < b)) fun t => k (.bo t) []
  | .leq => Let (decide (a ≤ b)) fun t => k (.bo t) []
  | .gtr => Let (decide (a > b)) fun t => k (.bo t) []
  | .geq => Let (decide (a ≥ b)) fun t => k (.bo t) []
  | .quo => nz z G b (Let (ki.wrap (a.tdiv b)) fun n => k (.i ki n) [])
  | .rem => nz z G b (Let (a.tmod b) fun n => k (.i ki n) [])
  | _ => none
theorem binInt_ok {L : SLS tb} {G o op t y z yt ki a b zs} {k : SV tb → List Nat → Option ρ} {r} (ho : o.op = .binOp op t y z yt) (hy : Gu L G → OpdOk L.E y (.v (.int ki a))) (hz : Gu L G → OpdOk L.E z (.v (.int ki b)))
    (h : binInt G op zs ki a b k = some r) : QOk P L G o k r := by
  unfold binInt at h
  split at h
  all_goals first
    | cases h; done
    | exact ⟨_, [], h, fun u => QEx.binI ho (hy u) (hz u) rfl⟩
    | (obtain ⟨h1, h⟩ := nz_e h; exact ⟨_, [], h, fun u => QEx.quo ho (hy u) (hz u) (h1 u.on)⟩)
    | (obtain ⟨h1, h⟩ := nz_e h; exact ⟨_, [], h, fun u => QEx.rem ho (hy u) (hz u) (h1 u.on)⟩)
def binByte (G : Gd) (op : BinOp) (p q : UInt8) (k : SV tb → List Nat → Option ρ) : Option ρ := match op with
  | .add => Let (p + q) fun n => k (.b8 n) []
  | .sub => Let (p - q) fun n => k (.b8 n) []
  | .rem => chk G (q ≠ 0) (Let (p % q) fun n => k (.b8 n) [])
  | .eql => Let (p == q) fun t => k (.bo t) []
  | .neq => Let (p != q) fun t => k (.bo t) []
  | .lss => Let (decide (p < q)) fun t => k (.bo t) []
  | .leq => Let (decide (p ≤ q)) fun t => k (.bo t) []
  | .gtr => Let (decide (q < p)) fun t => k (.bo t) []
  | .geq => Let (decide (q ≤ p)) fun t => k (.bo t) []
  | _ => none
theorem binByte_ok {L : SLS tb} {G o op t y z yt a b} {k : SV tb → List Nat → Option ρ} {r} (ho : o.op = .binOp op t y z yt) (hy : Gu L G → OpdOk L.E y (byteAV a)) (hz : Gu L G → OpdOk L.E z (byteAV b))
    (h : binByte G op a b k = some r) : QOk P L G o k r := by
  unfold binByte at h
  split at h
  · exact ⟨_, [], h, fun u => QEx.addC ho (hy u) (hz u)⟩
  · exact ⟨_, [], h, fun u => QEx.subC ho (hy u) (hz u)⟩
  · obtain ⟨h1, h⟩ := chk_e h; exact ⟨_, [], h, fun u => QEx.remC ho (hy u) (hz u) (h1 u.on)⟩
  · exact ⟨_, [], h, fun u => QEx.eqlC ho (hy u) (hz u)⟩
  · exact ⟨_, [], h, fun u => QEx.neqC ho (hy u) (hz u)⟩
  · exact ⟨_, [], h, fun u => QEx.lssC ho (hy u) (hz u)⟩
  · exact ⟨_, [], h, fun u => QEx.leqC ho (hy u) (hz u)⟩
  · exact ⟨_, [], h, fun u => QEx.gtrC ho (hy u) (hz u)⟩
  · exact ⟨_, [], h, fun u => QEx.geqC ho (hy u) (hz u)⟩
  · cases h
def binStr (G : Gd) (op : BinOp) (p q : List UInt8) (k : SV tb → List Nat → Option ρ) : Option ρ := match op with
  | .add => chk G (p.length + q.length ≤ 9223372036854775807) (Let (p ++ q) fun n => k (.st n) [])
  | .eql => Let (p == q) fun t => k (.bo t) []
  | .neq => Let (p != q) fun t => k (.bo t) []
  | .lss => Let (strLess p q) fun t => k (.bo t) []
  | _ => none
theorem binStr_ok {L : SLS tb} {G o op t y z yt a b} {k : SV tb → List Nat → Option ρ} {r} (ho : o.op = .binOp op t y z yt) (hy : Gu L G → OpdOk L.E y (sAV a)) (hz : Gu L G → OpdOk L.E z (sAV b))
    (h : binStr G op a b k = some r) : QOk P L G o k r := by
  unfold binStr at h
  split at h
  · obtain ⟨h1, h⟩ := chk_e h; exact ⟨_, [], h, fun u => QEx.addS ho (hy u) (hz u) (h1 u.on)⟩
  · exact ⟨_, [], h, fun u => QEx.eqlS ho (hy u) (hz u)⟩
  · exact ⟨_, [], h, fun u => QEx.neqS ho (hy u) (hz u)⟩
  · exact ⟨_, [], h, fun u => QEx.lssS ho (hy u) (hz u)⟩
  · cases h
def binBool (op : BinOp) (p q : Bool) (k : SV tb → List Nat → Option ρ) : Option ρ := match op with
  | .eql => Let (p == q) fun t => k (.bo t) []
  | .neq => Let (p != q) fun t => k (.bo t) []
  | _ => none
def isBoolD : TypeDesc → Bool
  | .bool => true
  | _ => false
theorem isBoolD_e {d} (h : isBoolD d = true) : d = .bool := by unfold isBoolD at h; split at h; rfl; cases h
theorem binBool_ok {L : SLS tb} {G o op t y z yt a b} {k : SV tb → List Nat → Option ρ} {r} (ht : P.underlying t = some .bool) (ho : o.op = .binOp op t y z yt) (hy : Gu L G → OpdOk L.E y (bAV a)) (hz : Gu L G → OpdOk L.E z (bAV b))
    (h : binBool op a b k = some r) : QOk P L G o k r := by
  unfold binBool at h
  split at h
  · exact ⟨_, [], h, fun u => QEx.binB ho (hy u) (hz u) rfl ht⟩
  · exact ⟨_, [], h, fun u => QEx.binB ho (hy u) (hz u) rfl ht⟩
  · cases h

def findEq (t : Nat) : List (EqE P tb) → Option (EqE P tb)
  | [] => none
  | e :: r => match Nat.beq e.t t with | true => some e | false => findEq t r
theorem findEq_t {t : Nat} : ∀ {l : List (EqE P tb)} {e}, findEq t l = some e → e.t = t
  | [], _, h => by simp [findEq] at h
  | e :: r, e', h => by
    simp only [findEq] at h
    split at h
    · rename_i hb; cases h; exact Nat.eq_of_beq_eq_true hb
    · exact findEq_t h
def binAgg (cx : Ctx P tb) (op : BinOp) (t yt : Nat) (a b : SV tb) (k : SV tb → List Nat → Option ρ) : Option ρ :=
  tst (Nat.beq yt t) <| got (findEq t cx.eqs) fun e => got ((cx.cd e.i).of a) fun x => got ((cx.cd e.i).of b) fun y => match op with
    | .eql => Let (e.beq x y) fun t => k (.bo t) []
    | .neq => Let (!e.beq x y) fun t => k (.bo t) []
    | _ => none
theorem OpdOk.sub {e : Env} {y x x'} (h : OpdOk e y x) (s : Sub x x') : OpdOk e y x' := fun m bl a hr => s m bl _ (h m bl a hr)
theorem binAgg_ok {cx : Ctx P tb} {L : SLS tb} {G o op t y z yt a b} {k : SV tb → List Nat → Option ρ} {r} (ho : o.op = .binOp op t y z yt) (hy : Gu L G → OpdOk L.E y a.av) (hz : Gu L G → OpdOk L.E z b.av)
    (h : binAgg cx op t yt a b k = some r) : QOk P L G o k r := by
  unfold binAgg at h
  obtain ⟨ht, h⟩ := tst_e h
  have ht := Nat.eq_of_beq_eq_true ht
  obtain ⟨e, he, h⟩ := got_e h
  obtain ⟨x, hx, h⟩ := got_e h
  obtain ⟨x', hx', h⟩ := got_e h
  have h1 := fun u => (hy u).sub ((cx.ok e.i).of _ _ hx)
  have h2 := fun u => (hz u).sub ((cx.ok e.i).of _ _ hx')
  have := e.ok
  rw [findEq_t he] at this
  rw [ht] at ho
  split at h
  · exact ⟨_, [], h, fun u => QEx.eqlA ho this (h1 u) (h2 u)⟩
  · exact ⟨_, [], h, fun u => QEx.neqA ho this (h1 u) (h2 u)⟩
  · cases h
/-- Two numbers that are known. -/
def conP : SV tb → SV tb → Option (IntKind × Int × Int)
  | .con (.int k n), .con (.int k' n') => (match decide (k = k') with | true => some (k, n, n') | false => none)
  | _, _ => none
theorem conP_e {x y : SV tb} {p} (h : conP x y = some p) : x.av = .v (.int p.1 p.2.1) ∧ y.av = .v (.int p.1 p.2.2) := by
  unfold conP at h
  split at h
  · split at h
    · rename_i hd
      have := of_decide_eq_true hd
      subst this
      cases h; exact ⟨rfl, rfl⟩
    · cases h
  · cases h
/-- What is reckoned of known numbers. -/
def foldI (op : BinOp) (ki : IntKind) (a b : Int) : Option Value := match op with
  | .add => some (.int ki (ki.wrap (a + b)))
  | .sub => some (.int ki (ki.wrap (a - b)))
  | .eql => some (.bool (a == b))
  | .neq => some (.bool (a != b))
  | .lss => some (.bool (decide (a < b)))
  | .leq => some (.bool (decide (a ≤ b)))
  | .gtr => some (.bool (decide (a > b)))
  | .geq => some (.bool (decide (a ≥ b)))
  | _ => none
def fold2 (op : BinOp) (x y : SV tb) : Option Value := match conP x y with
  | some p => foldI op p.1 p.2.1 p.2.2
  | none => none
theorem foldI_ok {L : SLS tb} {G o op t y z yt ki a b v} {k : SV tb → List Nat → Option ρ} {r} (ho : o.op = .binOp op t y z yt) (hy : Gu L G → OpdOk L.E y (.v (.int ki a))) (hz : Gu L G → OpdOk L.E z (.v (.int ki b)))
    (hf : foldI op ki a b = some v) (h : k (.con v) [] = some r) : QOk P L G o k r := by
  unfold foldI at hf
  split at hf
  all_goals first | (cases hf; exact ⟨_, [], h, fun u => QEx.binI ho (hy u) (hz u) rfl⟩) | cases hf
def isShift : BinOp → Bool
  | .shl => true
  | .shr => true
  | _ => false
def qShift (G : Gd) (op : BinOp) (z : SV tb) (ki : IntKind) (a b : Int) (k : SV tb → List Nat → Option ρ) : Option ρ := match op with
  | .shl => nn z G b (Let (bShl ki a b) fun n => k (.i ki n) [])
  | .shr => nn z G b (Let (bShr ki a b) fun n => k (.i ki n) [])
  | _ => none
def qBin (cx : Ctx P tb) (L : SLS tb) (G : Gd) (op : BinOp) (t : Nat) (y z : Operand) (yt : Nat) (k : SV tb → List Nat → Option ρ) : Option ρ :=
  got (opd L G y) fun a => got (opd L G z) fun b => match fold2 op a b with
  | some v => k (.con v) []
  | none => match isShift op with
  | true => got (asI a) fun p => got (asI b) fun q => qShift G op b p.1 p.2 q.2 k
  | false => match asI a, asI b with
    | some p, some q => tst (decide (p.1 = q.1)) (binInt G op b p.1 p.2 q.2 k)
    | _, _ => match asC a, asC b with
      | some p, some q => binByte G op p q k
      | _, _ => match boolOf a, boolOf b with
        | some p, some q => got (P.underlying t) fun d => tst (isBoolD d) (binBool op p q k)
        | _, _ => match asS a, asS b with
          | some p, some q => binStr G op p q k
          | _, _ => binAgg cx op t yt a b k
theorem qBin_ok {cx : Ctx P tb} {L : SLS tb} {G o op t y z yt} {k : SV tb → List Nat → Option ρ} {r} (ho : o.op = .binOp op t y z yt) (h : qBin cx L G op t y z yt k = some r) : QOk P L G o k r := by
  unfold qBin at h
  obtain ⟨a, ha, h⟩ := got_e h
  obtain ⟨b, hb, h⟩ := got_e h
  have hy := fun u => opd_ok (L := L) (G := G) u ha
  have hz := fun u => opd_ok (L := L) (G := G) u hb
  split at h
  · rename_i v hv
    unfold fold2 at hv
    split at hv
    · rename_i p hp
      obtain ⟨g1, g2⟩ := conP_e hp
      rw [g1] at hy; rw [g2] at hz
      exact foldI_ok ho hy hz hv h
    · cases hv
  · split at h
    · obtain ⟨p, hp, h⟩ := got_e h
      obtain ⟨q, hq, h⟩ := got_e h
      rw [asI_e hp] at hy; rw [asI_e hq] at hz
      unfold qShift at h
      split at h
      · obtain ⟨h1, h⟩ := nn_e h; exact ⟨_, [], h, fun u => QEx.shl ho (hy u) (hz u) (h1 u.on)⟩
      · obtain ⟨h1, h⟩ := nn_e h; exact ⟨_, [], h, fun u => QEx.shr ho (hy u) (hz u) (h1 u.on)⟩
      · cases h
    · split at h
      · rename_i p q hp hq
        obtain ⟨h1, h⟩ := tst_e h
        have h1 := of_decide_eq_true h1
        rw [asI_e hp] at hy; rw [asI_e hq, ← h1] at hz
        exact binInt_ok ho hy hz h
      · split at h
        · rename_i p q hp hq
          rw [asC_e hp] at hy; rw [asC_e hq] at hz
          exact binByte_ok ho hy hz h
        · split at h
          · rename_i p q hp hq
            obtain ⟨d, hd, h⟩ := got_e h
            obtain ⟨h1, h⟩ := tst_e h
            rw [isBoolD_e h1] at hd
            rw [boolOf_e hp] at hy; rw [boolOf_e hq] at hz
            exact binBool_ok hd ho hy hz h
          · split at h
            · rename_i p q hp hq
              rw [asS_e hp] at hy; rw [asS_e hq] at hz
              exact binStr_ok ho hy hz h
            · exact binAgg_ok ho hy hz h
def qUn (L : SLS tb) (G : Gd) (op : UnOp) (y : Operand) (k : SV tb → List Nat → Option ρ) : Option ρ :=
  got (opd L G y) fun a => match op with
  | .not => got (boolOf a) fun b => Let (!b) fun t => k (.bo t) []
  | .neg => got (asI a) fun p => Let (p.1.wrap (0 - p.2)) fun n => k (.i p.1 n) []
  | _ => none
theorem qUn_ok {L : SLS tb} {G o op t y} {k : SV tb → List Nat → Option ρ} {r} (ho : o.op = .unOp op t y) (h : qUn L G op y k = some r) : QOk P L G o k r := by
  unfold qUn at h
  obtain ⟨a, ha, h⟩ := got_e h
  have hy := fun u => opd_ok (L := L) (G := G) u ha
  split at h
  · obtain ⟨p, hp, h⟩ := got_e h
    rw [boolOf_e hp] at hy
    exact ⟨_, [], h, fun u => QEx.not ho (hy u)⟩
  · obtain ⟨p, hp, h⟩ := got_e h
    rw [asI_e hp] at hy
    exact ⟨_, [], h, fun u => QEx.neg ho (hy u)⟩
  · cases h

/-! conversions -/
def isIntD : TypeDesc → Option IntKind
  | .int k => some k
  | _ => none
theorem isIntD_e {d k} (h : isIntD d = some k) : d = .int k := by unfold isIntD at h; split at h; cases h; rfl; cases h
def wideK : IntKind → Bool
  | .i64 => true
  | .u64 => true
  | .i32 => true
  | .u32 => true
  | .u16 => true
  | .i16 => true
  | _ => false
theorem wideK_e {k} (h : wideK k = true) : k = .i64 ∨ k = .u64 ∨ k = .i32 ∨ k = .u32 ∨ k = .u16 ∨ k = .i16 := by
  unfold wideK at h; split at h <;> simp at h ⊢
def isU8 : IntKind → Bool
  | .u8 => true
  | _ => false
theorem isU8_e {k} (h : isU8 k = true) : k = .u8 := by unfold isU8 at h; split at h; rfl; cases h
def isStrD : TypeDesc → Bool
  | .string => true
  | _ => false
theorem isStrD_e {d} (h : isStrD d = true) : d = .string := by unfold isStrD at h; split at h; rfl; cases h
def isSlD : TypeDesc → Option Nat
  | .slice E => some E
  | _ => none
theorem isSlD_e {d E} (h : isSlD d = some E) : d = .slice E := by unfold isSlD at h; split at h; cases h; rfl; cases h
theorem bytes_map {T : Type} {el : T → AV} (h : T = UInt8) (he : ∀ x, el x = byteAV (cast h x)) (l : List T) : l.map el = (cast (congrArg List h) l).map byteAV := by
  subst h; exact List.map_congr_left fun x _ => he x
theorem bytes_map2 {T : Type} {el : T → AV} (h : T = UInt8) (he : ∀ x, el x = byteAV (cast h x)) (l : List UInt8) : (cast (congrArg List h).symm l).map el = l.map byteAV := by
  subst h; exact List.map_congr_left fun x _ => he x
/-- A slice of bytes, as a list of them. -/
def bytesOf (tb : Tb) (E : tb.Ix) (l : List (tb.T E)) : Option (List UInt8) := match tb.byte with
  | some b => (match tb.dec E b.1 with | isTrue he => some (cast (congrArg List ((congrArg tb.T he).trans (Classical.choose b.2))) l) | isFalse _ => none)
  | none => none
theorem bytesOf_e {E l s} (h : bytesOf tb E l = some s) : tb.sz E = 1 ∧ l.map (tb.el E) = s.map byteAV := by
  unfold bytesOf at h
  split at h
  · rename_i b _
    split at h
    · rename_i he _
      cases h
      subst he
      obtain ⟨h1, h2⟩ := Classical.choose_spec b.2
      exact ⟨h1, bytes_map (Classical.choose b.2) h2 l⟩
    · cases h
  · cases h
def slB (tb : Tb) (s : List UInt8) : Option (SV tb) := match tb.byte with
  | some b => some (.sl false b.1 (cast (congrArg List (Classical.choose b.2)).symm s))
  | none => none
theorem slB_e {s x} (h : slB tb s = some x) : x.av = .sl false 1 (s.map byteAV) := by
  unfold slB at h
  split at h
  · rename_i b _
    cases h
    obtain ⟨h1, h2⟩ := Classical.choose_spec b.2
    show AV.sl false (tb.sz b.1) (List.map (tb.el b.1) _) = _
    rw [h1, bytes_map2 (Classical.choose b.2) h2]
  · cases h
/-- A plain slice's elements. -/
def asSl : SV tb → Option ((E : tb.Ix) × List (tb.T E))
  | .sl _ E l => some ⟨E, l⟩
  | .em E => some ⟨E, []⟩
  | _ => none
theorem asSl_e {x : SV tb} {p} (h : asSl x = some p) : ∃ c, x.av = .sl c (tb.sz p.1) (p.2.map (tb.el p.1)) := by
  unfold asSl at h; split at h
  · cases h; exact ⟨_, rfl⟩
  · cases h; exact ⟨_, rfl⟩
  · cases h
def isNil : SV tb → Bool
  | .con (.slice none 0 0) => true
  | _ => false
theorem isNil_e {x : SV tb} (h : isNil x = true) : x.av = .v (.slice none 0 0) := by
  unfold isNil at h; split at h
  · rfl
  · cases h

def qConv (P : Program) (L : SLS tb) (G : Gd) (s d : Nat) (y : Operand) (k : SV tb → List Nat → Option ρ) : Option ρ :=
  got (opd L G y) fun a => got (P.underlying d) fun D => got (P.underlying s) fun S => match isIntD D with
  | some kd => (match asI a with
    | some p => (match isU8 kd with
      | true => Let (toByte p.2) fun n => k (.b8 n) []
      | false => Let (kd.wrap p.2) fun n => k (.i kd n) [])
    | none => got (asC a) fun c => tst (wideK kd) (Let (c.toNat : Int) fun n => k (.i kd n) []))
  | none => match isStrD D with
    | true => got (isSlD S) fun E => got (P.underlying E) fun ED => got (isIntD ED) fun ke => tst (isU8 ke) (match isNil a with
      | true => k (.st []) []
      | false => got (asSl a) fun p => got (bytesOf tb p.1 p.2) fun bs => k (.st bs) [])
    | false => tst (isStrD S) <| got (isSlD D) fun E => got (P.underlying E) fun ED => got (isIntD ED) fun ke => tst (isU8 ke) (got (asS a) fun st => got (slB tb st) fun x => k x [])
theorem qConv_ok {L : SLS tb} {G o s d y} {k : SV tb → List Nat → Option ρ} {r} (ho : o.op = .convert s d y) (h : qConv P L G s d y k = some r) : QOk P L G o k r := by
  unfold qConv at h
  obtain ⟨a, ha, h⟩ := got_e h
  obtain ⟨D, hD, h⟩ := got_e h
  obtain ⟨S, hS, h⟩ := got_e h
  have hy := fun u => opd_ok (L := L) (G := G) u ha
  have hSs : (P.underlying s).isSome = true := by rw [hS]; rfl
  split at h
  · rename_i kd hkd
    rw [isIntD_e hkd] at hD
    split at h
    · rename_i p hp
      rw [asI_e hp] at hy
      split at h
      · rename_i hu
        rw [isU8_e hu] at hD
        exact ⟨_, [], h, fun u => QEx.cvKC ho hD hSs (hy u)⟩
      · exact ⟨_, [], h, fun u => QEx.convI ho hD hSs (hy u)⟩
    · obtain ⟨c, hc, h⟩ := got_e h
      obtain ⟨hw, h⟩ := tst_e h
      rw [asC_e hc] at hy
      exact ⟨_, [], h, fun u => QEx.cvCK ho hD hSs (hy u) (wideK_e hw)⟩
  · split at h
    · rename_i hs
      obtain ⟨E, hE, h⟩ := got_e h
      obtain ⟨ED, hED, h⟩ := got_e h
      obtain ⟨ke, hke, h⟩ := got_e h
      obtain ⟨hu, h⟩ := tst_e h
      rw [isStrD_e hs] at hD
      rw [isSlD_e hE] at hS
      rw [isIntD_e hke, isU8_e hu] at hED
      split at h
      · rename_i hn
        refine ⟨_, [], h, fun u => ?_⟩
        have h1 : OpdOk L.E y (.sl true 1 []) := (hy u).sub (by rw [isNil_e hn]; exact .nil)
        exact QEx.bytesStr (bs := []) ho hS hED hD h1 rfl
      · obtain ⟨p, hp, h⟩ := got_e h
        obtain ⟨bs, hbs, h⟩ := got_e h
        obtain ⟨c, hc⟩ := asSl_e hp
        obtain ⟨h1, h2⟩ := bytesOf_e hbs
        rw [hc, h1] at hy
        exact ⟨_, [], h, fun u => QEx.bytesStr ho hS hED hD (hy u) h2⟩
    · obtain ⟨hs, h⟩ := tst_e h
      obtain ⟨E, hE, h⟩ := got_e h
      obtain ⟨ED, hED, h⟩ := got_e h
      obtain ⟨ke, hke, h⟩ := got_e h
      obtain ⟨hu, h⟩ := tst_e h
      obtain ⟨st, hst, h⟩ := got_e h
      obtain ⟨x, hx, h⟩ := got_e h
      rw [isStrD_e hs] at hS
      rw [isSlD_e hE] at hD
      rw [isIntD_e hke, isU8_e hu] at hED
      rw [asS_e hst] at hy
      refine ⟨_, [], h, fun u => ?_⟩
      rw [slB_e hx]
      exact QEx.strBytes ho hS hD hED (hy u)

/-! lengths -/
def qLen (P : Program) (L : SLS tb) (G : Gd) (y : Operand) (t : Nat) (k : SV tb → List Nat → Option ρ) : Option ρ :=
  got (opd L G y) fun a => got (P.underlying t) fun D => match isStrD D with
  | true => got (asS a) fun s => Let (s.length : Int) fun n => k (.i .i64 n) []
  | false => got (isSlD D) fun _ => match isNil a with
    | true => k (.i .i64 0) []
    | false => match a with
      | .sl _ _ l => Let (l.length : Int) fun n => k (.i .i64 n) []
      | .row _ _ _ len _ => k (.i .i64 len) []
      | _ => none
theorem qLen_ok {L : SLS tb} {G o y t} {k : SV tb → List Nat → Option ρ} {r} (ho : o.op = .call { callee := .builtin .len, args := #[y], argTypes := #[t] }) (h : qLen P L G y t k = some r) : QOk P L G o k r := by
  unfold qLen at h
  obtain ⟨a, ha, h⟩ := got_e h
  obtain ⟨D, hD, h⟩ := got_e h
  have hy := fun u => opd_ok (L := L) (G := G) u ha
  split at h
  · rename_i hs
    obtain ⟨s, hs2, h⟩ := got_e h
    rw [isStrD_e hs] at hD
    rw [asS_e hs2] at hy
    exact ⟨_, [], h, fun u => QEx.lenStr ho hD (hy u)⟩
  · obtain ⟨E, hE, h⟩ := got_e h
    rw [isSlD_e hE] at hD
    split at h
    · rename_i hn
      refine ⟨_, [], h, fun u => ?_⟩
      have h1 : OpdOk L.E y (.sl true 1 []) := (hy u).sub (by rw [isNil_e hn]; exact .nil)
      exact QEx.len ho ⟨_, hD⟩ h1
    · split at h
      · refine ⟨_, [], h, fun u => ?_⟩
        have := QEx.len ho ⟨_, hD⟩ (hy u)
        rw [List.length_map] at this
        exact this
      · exact ⟨_, [], h, fun u => QEx.lenR ho hD ((hy u).r (by simp [ho, Op.operands, Call.operands]))⟩
      · cases h
def qMM (L : SLS tb) (G : Gd) (mx : Bool) (x y : Operand) (k : SV tb → List Nat → Option ρ) : Option ρ :=
  got (opd L G x) fun a => got (opd L G y) fun b => got (asI a) fun p => got (asI b) fun q => tst (decide (p.1 = q.1)) (match mx with
  | true => Let (max p.2 q.2) fun n => k (.i p.1 n) []
  | false => Let (min p.2 q.2) fun n => k (.i p.1 n) [])

/-! picks -/
/-- The guard that waits for the slot t to yield w. -/
def gdAt (e : SEnv tb) (t : Nat) (w : Bool) : Option Gd := match find t e with
  | some (.opt G' y) => (match G' with
    | [] => none
    | _ :: _ => match boolOf y with | some b => some ((t, w, b) :: G') | none => none)
  | some y => (match boolOf y with | some b => some [(t, w, b)] | none => none)
  | none => none
theorem gdAt_e {e : SEnv tb} {t w G} (hi : GInv e) (h : gdAt e t w = some G) : ∃ b G', G = (t, w, b) :: G' ∧ GD e G := by
  unfold gdAt at h
  split at h
  · rename_i G' y hf
    split at h
    · cases h
    · rename_i g G'
      split at h
      · rename_i b hb
        cases h
        exact ⟨b, g :: G', rfl, (hi _ _ _ hf).1, y, hb, .inr ⟨hf, by simp⟩⟩
      · cases h
  · rename_i y hne hf
    split at h
    · rename_i b hb
      cases h
      exact ⟨b, [], rfl, trivial, y, hb, .inl ⟨hf, rfl⟩⟩
    · cases h
  · cases h
def gdOp (L : SLS tb) (G : Gd) (w : Bool) : Operand → Option Gd
  | .tmp t => gdAt L.e t w
  | _ => some G
def conB : SV tb → Option Bool
  | .con (.bool t) => some t
  | _ => none
theorem conB_e {x : SV tb} {t} (h : conB x = some t) : x.av = bAV t := by
  unfold conB at h
  split at h
  · cases h; rfl
  · cases h
def qPick1 (L : SLS tb) (G : Gd) (c y z : Operand) (k : SV tb → List Nat → Option ρ) : Option ρ :=
  got (opd L G c) fun a => got (boolOf a) fun t => got (gdOp L G true c) fun G1 => got (gdOp L G false c) fun G2 =>
  got (opd L G1 y) fun b => got (boolOf b) fun s => got (opd L G2 z) fun d => got (boolOf d) fun r => Let (cond t s r) fun t => k (.bo t) []
theorem gdOp_u {L : SLS tb} {G G1 : Gd} {w c a t} (u : Gu L G) (ha : opd L G c = some a) (hb : boolOf a = some t) (h : gdOp L G w c = some G1) (ht : t = w) : Gu L G1 := by
  unfold gdOp at h
  split at h
  · rename_i s
    obtain ⟨b, G', rfl, hg⟩ := gdAt_e u.inv h
    refine ⟨u.inv, hg, ?_⟩
    rw [gc_eq]
    simp only [gc0, Bool.and_eq_true, beq_iff_eq]
    obtain ⟨h1, y, hy, h2⟩ := hg
    simp only [opd] at ha
    rcases h2 with ⟨h2, rfl⟩ | ⟨h2, h3⟩
    · rw [h2] at ha
      have hyo : ∀ G x, y ≠ .opt G x := by rintro G x rfl; cases hy
      split at ha
      · rename_i heq; cases heq; exact absurd rfl (hyo _ _)
      · rename_i heq; cases heq; cases ha
        rw [boolOf_res hy, hy] at hb; cases hb
        exact ⟨rfl, ht⟩
      · rename_i heq; cases heq
    · rw [h2] at ha
      simp only at ha
      split at ha
      · rename_i hs
        cases ha
        rw [boolOf_res hy, hy] at hb; cases hb
        refine ⟨?_, ht⟩
        rw [← gc_eq]
        exact gSuf_of u.gd h1 hs u.on
      · cases ha
  · cases h; exact u
theorem qPick1_ok {L : SLS tb} {G o c y z} {k : SV tb → List Nat → Option ρ} {r} (ho : o.op = .pick c y z) (h : qPick1 L G c y z k = some r) : QOk P L G o k r := by
  unfold qPick1 at h
  obtain ⟨a, ha, h⟩ := got_e h
  obtain ⟨t, ht, h⟩ := got_e h
  obtain ⟨G1, hG1, h⟩ := got_e h
  obtain ⟨G2, hG2, h⟩ := got_e h
  obtain ⟨b, hb, h⟩ := got_e h
  obtain ⟨s, hs, h⟩ := got_e h
  obtain ⟨d, hd, h⟩ := got_e h
  obtain ⟨q, hq, h⟩ := got_e h
  refine ⟨_, [], h, fun u => QEx.pick ho ?_ ?_ ?_⟩
  · have := opd_ok u ha; rwa [boolOf_e ht] at this
  · intro h1; have := opd_ok (gdOp_u u ha ht hG1 h1) hb; rwa [boolOf_e hs] at this
  · intro h1; have := opd_ok (gdOp_u u ha ht hG2 h1) hd; rwa [boolOf_e hq] at this

/-- A pick whose condition is known. -/
def qPickC (L : SLS tb) (t : Bool) (y z : Operand) (k : SV tb → List Nat → Option ρ) : Option ρ := match t with
  | true => got (opd L [] y) fun b => got (boolOf b) fun _ => k b []
  | false => got (opd L [] z) fun b => got (boolOf b) fun _ => k b []
def qPick (L : SLS tb) (G : Gd) (c y z : Operand) (k : SV tb → List Nat → Option ρ) : Option ρ := match G with
  | [] => (match (opd L [] c).bind conB with
    | some t => qPickC L t y z k
    | none => qPick1 L [] c y z k)
  | _ :: _ => qPick1 L G c y z k
theorem qPick_ok {L : SLS tb} {G o c y z} {k : SV tb → List Nat → Option ρ} {r} (ho : o.op = .pick c y z) (h : qPick L G c y z k = some r) : QOk P L G o k r := by
  unfold qPick at h
  split at h
  · split at h
    · rename_i t ht
      obtain ⟨a, ha, hb⟩ := Option.bind_eq_some_iff.1 ht
      have hc := fun u => opd_ok (L := L) (G := []) u ha
      rw [conB_e hb] at hc
      unfold qPickC at h
      split at h
      · obtain ⟨b, hb, h⟩ := got_e h
        obtain ⟨s, hs, h⟩ := got_e h
        refine ⟨_, [], h, fun u => ?_⟩
        have hy := opd_ok u hb
        rw [boolOf_e hs] at hy
        rw [boolOf_e hs]
        exact QEx.pick (t := true) (s := s) (r := s) ho (hc u) (fun _ => hy) (fun h => by cases h)
      · obtain ⟨b, hb, h⟩ := got_e h
        obtain ⟨s, hs, h⟩ := got_e h
        refine ⟨_, [], h, fun u => ?_⟩
        have hy := opd_ok u hb
        rw [boolOf_e hs] at hy
        rw [boolOf_e hs]
        exact QEx.pick (t := false) (s := s) (r := s) ho (hc u) (fun h => by cases h) (fun _ => hy)
    · exact qPick1_ok ho h
  · exact qPick1_ok ho h
def qMove (L : SLS tb) (G : Gd) (y : Operand) (k : SV tb → List Nat → Option ρ) : Option ρ := got (opd L G y) fun a => k a []
theorem qMove_ok {L : SLS tb} {G o y} {k : SV tb → List Nat → Option ρ} {r} (ho : o.op = .move y ∨ o.op = .assign y) (h : qMove L G y k = some r) : QOk P L G o k r := by
  unfold qMove at h
  obtain ⟨a, ha, h⟩ := got_e h
  rcases ho with ho | ho
  · exact ⟨_, [], h, fun u => QEx.move ho (opd_ok u ha)⟩
  · exact ⟨_, [], h, fun u => QEx.assign ho (opd_ok u ha)⟩
theorem avL_get {l : List (SV tb)} {i : Nat} {x} (h : l[i]? = some x) : (avL l)[i]? = some x.av := by
  rw [avL_map, List.getElem?_map, h]; rfl
def nth {α : Type} : List α → Nat → Option α
  | [], _ => none
  | x :: _, 0 => some x
  | _ :: l, n + 1 => nth l n
theorem nth_e {α : Type} : ∀ (l : List α) (n : Nat), nth l n = l[n]?
  | [], _ => by simp [nth]
  | x :: _, 0 => rfl
  | _ :: l, n + 1 => by simpa [nth] using nth_e l n
def qExt (L : SLS tb) (G : Gd) (y : Operand) (i : Nat) (k : SV tb → List Nat → Option ρ) : Option ρ := got (opd L G y) fun a => match a with
  | .tup l => got (nth l i) fun x => k x []
  | _ => none
theorem qExt_ok {L : SLS tb} {G o y i} {k : SV tb → List Nat → Option ρ} {r} (ho : o.op = .extract y i) (h : qExt L G y i k = some r) : QOk P L G o k r := by
  unfold qExt at h
  obtain ⟨a, ha, h⟩ := got_e h
  split at h
  · obtain ⟨x, hx, h⟩ := got_e h
    rw [nth_e] at hx
    exact ⟨_, [], h, fun u => QEx.extract ho (opd_ok u ha) (avL_get hx)⟩
  · cases h
end
end Go.Rx
end

section
/-
  Operations that read memory and make values, run on symbolic values. No conditions.
-/
set_option linter.all false
namespace Go.Rx
open Go.RowKit
variable [GlC]

section
variable {P : Program} {tb : Tb} {ρ : Type}

theorem avL_length : ∀ l : List (SV tb), (avL l).length = l.length
  | [] => rfl
  | x :: l => by simp only [avL, List.length_cons, avL_length l]
theorem avL_drop : ∀ (l : List (SV tb)) n, avL (l.drop n) = (avL l).drop n := fun l n => by rw [avL_map, avL_map, List.map_drop]
theorem avL_take : ∀ (l : List (SV tb)) n, avL (l.take n) = (avL l).take n := fun l n => by rw [avL_map, avL_map, List.map_take]

/-- An element of a plain slice. -/
def ixd {α : Type} (d : α) (l : List α) (i : Int) : α := @ix α ⟨d⟩ l i
theorem ixd_get {α : Type} {d : α} {l : List α} {i : Int} (h : 0 ≤ i ∧ i < l.length) : l[i.toNat]? = some (ixd d l i) := by
  have hlt : i.toNat < l.length := by omega
  simp [ixd, ix, List.getD, List.getElem?_eq_getElem hlt]
variable {cx : Ctx P tb}
theorem elC_len (ok : ∀ i, CdOk (cx.cd i)) {E : tb.Ix} {l : List (tb.T E)} : ∀ x ∈ l.map (tb.el E), x.cells.length = tb.sz E := by
  intro x hx
  obtain ⟨y, -, rfl⟩ := List.mem_map.1 hx
  exact (ok E).len y
theorem elC_length (cx : Ctx P tb) {E : tb.Ix} {l : List (tb.T E)} : (elC tb E l).length = l.length * tb.sz E := by
  unfold elC; rw [flat_len (elC_len cx.ok), List.length_map]
theorem elC_at (cx : Ctx P tb) {E : tb.Ix} {l : List (tb.T E)} {i : Int} (h : 0 ≤ i ∧ i < l.length) : ((elC tb E l).drop (i.toNat * tb.sz E)).take (tb.sz E) = avL ((cx.cd E).cs (ixd (cx.cd E).inh l i)) := by
  unfold elC
  rw [flat_at (elC_len cx.ok) (e := tb.el E (ixd (cx.cd E).inh l i)) (by rw [List.getElem?_map, ixd_get h]; rfl), (cx.ok E).cs]
theorem elC_sub (cx : Ctx P tb) {E : tb.Ix} {l : List (tb.T E)} {i : Int} {fo sz : Nat} (h : 0 ≤ i ∧ i < l.length) (hf : fo + sz ≤ tb.sz E) :
    ((elC tb E l).drop (i.toNat * tb.sz E + fo)).take sz = avL ((((cx.cd E).cs (ixd (cx.cd E).inh l i)).drop fo).take sz) := by
  rw [avL_take, avL_drop, ← elC_at cx h, List.drop_take, List.drop_drop, List.take_take, Nat.min_eq_left (by omega)]
theorem cs_length (cx : Ctx P tb) {E : tb.Ix} {x : tb.T E} : ((cx.cd E).cs x).length = tb.sz E := by
  rw [← avL_length, (cx.ok E).cs, (cx.ok E).len]

/-- Numbers of one kind, as many as come first. -/
def intsK (K : IntKind) : List (SV tb) → List Int
  | [] => []
  | x :: r => match x with
    | .i k n => (match decide (k = K) with | true => n :: intsK K r | false => [])
    | .con (.int k n) => (match decide (k = K) with | true => n :: intsK K r | false => [])
    | _ => []
def kindAt : List (SV tb) → Option IntKind
  | [] => none
  | x :: _ => match x with
    | .i k _ => some k
    | .con (.int k _) => some k
    | _ => none
theorem intsK_get {K : IntKind} : ∀ {l : List (SV tb)} {i : Nat}, i < (intsK K l).length → ∃ x, l[i]? = some x ∧ x.av = .v (.int K ((intsK K l).getD i 0))
  | [], i, h => by simp [intsK] at h
  | x :: r, i, h => by
    have step : ∀ n, intsK K (x :: r) = n :: intsK K r → x.av = .v (.int K n) → ∃ y, (x :: r)[i]? = some y ∧ y.av = .v (.int K ((intsK K (x :: r)).getD i 0)) := by
      intro n h1 h2
      cases i with
      | zero => exact ⟨x, rfl, by rw [h1, h2]; rfl⟩
      | succ i =>
        rw [h1, List.length_cons] at h
        obtain ⟨y, h3, h4⟩ := intsK_get (K := K) (l := r) (i := i) (by omega)
        exact ⟨y, by simpa using h3, by rw [h4, h1]; rfl⟩
    have none_ : intsK K (x :: r) = [] → ∃ y, (x :: r)[i]? = some y ∧ y.av = .v (.int K ((intsK K (x :: r)).getD i 0)) := by
      intro h1; rw [h1] at h; simp at h
    cases x with
    | i k n =>
      by_cases hk : k = K
      · subst hk; exact step n (by simp [intsK]) rfl
      · exact none_ (by simp [intsK, hk])
    | con v =>
      cases v with
      | int k n =>
        by_cases hk : k = K
        · subst hk; exact step n (by simp [intsK]) rfl
        · exact none_ (by simp [intsK, hk])
      | _ => exact none_ rfl
    | _ => exact none_ rfl
/-- The strings that cells hold. -/
def strsS : List (SV tb) → List (List UInt8)
  | [] => []
  | x :: r => match asS x with
    | some s => s :: strsS r
    | none => []
theorem strsS_get : ∀ {l : List (SV tb)} {i : Nat}, i < (strsS l).length → ∃ x, l[i]? = some x ∧ x.av = sAV ((strsS l).getD i [])
  | [], i, h => by simp [strsS] at h
  | x :: r, i, h => by
    unfold strsS at h ⊢
    split at h
    · rename_i s hs
      cases i with
      | zero => exact ⟨x, rfl, asS_e hs⟩
      | succ i =>
        obtain ⟨y, h3, h4⟩ := strsS_get (l := r) (i := i) (by simpa using h)
        exact ⟨y, by simpa using h3, by rw [h4]; rfl⟩
    · simp at h
/-- Cells that are no structs. -/
def allOne : List (SV tb) → Bool
  | [] => true
  | x :: l => match x with
    | .agg _ => false
    | .opt _ _ => false
    | .tup _ => false
    | .con v => (match oneCell v with | true => allOne l | false => false)
    | _ => allOne l
theorem allOne_flat : ∀ {l : List (SV tb)}, allOne l = true → (avL l).flatMap AV.cells = avL l ∧ ∀ x ∈ avL l, x.cells.length = 1
  | [], _ => ⟨rfl, by simp [avL]⟩
  | x :: l, h => by
    have key : allOne l = true → x.av.cells = [x.av] → (avL (x :: l)).flatMap AV.cells = avL (x :: l) ∧ ∀ y ∈ avL (x :: l), y.cells.length = 1 := by
      intro h1 h2
      obtain ⟨g1, g2⟩ := allOne_flat h1
      refine ⟨?_, ?_⟩
      · simp only [avL, List.flatMap_cons]
        rw [g1, h2]; rfl
      · intro y hy
        simp only [avL, List.mem_cons] at hy
        rcases hy with rfl | hy
        · rw [h2]; rfl
        · exact g2 y hy
    cases x with
    | agg _ => cases h
    | opt _ _ => cases h
    | tup _ => cases h
    | con v =>
      unfold allOne at h
      simp only at h
      split at h
      · rename_i hv; exact key h rfl
      · cases h
    | _ => exact key h rfl
def qLoad (cx : Ctx P tb) (L : SLS tb) (G : Gd) (t : Nat) (y : Operand) (k : SV tb → List Nat → Option ρ) : Option ρ :=
  got (opd L G y) fun a => got (tAg P t) fun ag => match a with
  | .cp l => (match ag with
    | true => got (tSz P t) fun n => tst (Nat.beq n l.length) (k (.agg l) [])
    | false => match l with | [x] => k x [] | _ => none)
  | .ptr id off => got (cellsAt L id) fun l => (match ag with
    | true => got (tSz P t) fun n => tst (Nat.ble (off + n) l.length) (k (.agg ((l.drop off).take n)) [id])
    | false => got (nth l off) fun x => k x [id])
  | .epr id E i fo => (match arrAt L id E with
    | some l => chk G (0 ≤ i ∧ i < l.length) (Let (ixd (cx.cd E).inh l i) fun x => match ag with
      | true => got (tSz P t) fun n => tst (Nat.ble (fo + n) (tb.sz E)) (k (.agg ((((cx.cd E).cs x).drop fo).take n)) [id])
      | false => got (nth ((cx.cd E).cs x) fo) fun y => k y [id])
    | none => tst (!ag) <| tst (Nat.beq (tb.sz E) 1) <| got (cellsAt L id) fun l => got (kindAt (l.drop fo)) fun K => chk G (0 ≤ i ∧ i < (intsK K (l.drop fo)).length) (Let (ixd 0 (intsK K (l.drop fo)) i) fun x => k (.i K x) [id]))
  | _ => none
theorem qLoad_ok {L : SLS tb} {G o t y} {k : SV tb → List Nat → Option ρ} {r} (ho : o.op = .load t y) (h : qLoad cx L G t y k = some r) : QOk P L G o k r := by
  unfold qLoad at h
  obtain ⟨a, ha, h⟩ := got_e h
  obtain ⟨ag, hag, h⟩ := got_e h
  have hy := fun u => opd_ok (L := L) (G := G) u ha
  split at h
  · split at h
    · obtain ⟨n, hn, h⟩ := got_e h
      obtain ⟨h1, h⟩ := tst_e h
      exact ⟨_, [], h, fun u => QEx.loadAgg ho hag (by rw [hn, Nat.eq_of_beq_eq_true h1, avL_length]) (hy u)⟩
    · split at h
      · exact ⟨_, [], h, fun u => QEx.load1 ho hag (hy u)⟩
      · cases h
  · obtain ⟨l, hl, h⟩ := got_e h
    have hl := cellsAt_e hl
    split at h
    · obtain ⟨n, hn, h⟩ := got_e h
      obtain ⟨h1, h⟩ := tst_e h
      refine ⟨_, _, h, fun u => ?_⟩
      rw [needAV_one hl]
      have := QEx.loadP (l := avL l) ho hag hn (hy u) (by rw [avL_length]; exact Nat.le_of_ble_eq_true h1)
      simp only [SV.av]
      rw [avL_take, avL_drop]; exact this
    · obtain ⟨x, hx, h⟩ := got_e h
      rw [nth_e] at hx
      refine ⟨_, _, h, fun u => ?_⟩
      rw [needAV_one hl]
      exact QEx.loadP1 ho hag (hy u) (avL_get hx)
  · rename_i id E i fo _
    split at h
    · rename_i l hl
      have hl := arrAt_e hl
      obtain ⟨hc, h⟩ := chk_e h
      change (match ag with | true => _ | false => _) = _ at h
      split at h
      · obtain ⟨n, hn, h⟩ := got_e h
        obtain ⟨h1, h⟩ := tst_e h
        have h1 := Nat.le_of_ble_eq_true h1
        refine ⟨_, _, h, fun u => ?_⟩
        rw [needAV_one hl]
        have hc := hc u.on
        have hlt : i.toNat + 1 ≤ l.length := by omega
        have := QEx.loadP (l := elC tb E l) ho hag hn (hy u) (by
          rw [elC_length cx]
          have := Nat.mul_le_mul_right (tb.sz E) hlt
          rw [Nat.add_mul] at this; omega)
        rw [elC_sub cx hc h1] at this
        exact this
      · obtain ⟨x, hx, h⟩ := got_e h
        rw [nth_e] at hx
        refine ⟨_, _, h, fun u => ?_⟩
        rw [needAV_one hl]
        have hc := hc u.on
        have hlt : fo < tb.sz E := by
          have : fo < ((cx.cd E).cs (ixd (cx.cd E).inh l i)).length := by
            rcases Nat.lt_or_ge fo ((cx.cd E).cs (ixd (cx.cd E).inh l i)).length with h | h
            · exact h
            · rw [List.getElem?_eq_none h] at hx; cases hx
          rwa [cs_length cx] at this
        refine QEx.loadP1 (l := elC tb E l) ho hag (hy u) ?_
        have h2 := congrArg (fun z : List AV => z[0]?) (elC_sub cx (l := l) (fo := fo) (sz := 1) hc hlt)
        have h3 : (avL ((((cx.cd E).cs (ixd (cx.cd E).inh l i)).drop fo).take 1))[0]? = some x.av := avL_get (by rw [List.getElem?_take_of_lt (by omega), List.getElem?_drop]; simpa using hx)
        rw [h3, List.getElem?_take_of_lt (by omega), List.getElem?_drop, Nat.add_zero] at h2
        exact h2
    · obtain ⟨h1, h⟩ := tst_e h
      obtain ⟨h2, h⟩ := tst_e h
      obtain ⟨l, hl, h⟩ := got_e h
      obtain ⟨K, hK, h⟩ := got_e h
      obtain ⟨hc, h⟩ := chk_e h
      have h := (show k (.i K (ixd 0 (intsK K (l.drop fo)) i)) [id] = some r from h)
      have hl := cellsAt_e hl
      refine ⟨_, _, h, fun u => ?_⟩
      rw [needAV_one hl]
      have hc := hc u.on
      have hag' : ag = false := by simpa using h1
      rw [hag'] at hag
      obtain ⟨x, hx, hxa⟩ := intsK_get (K := K) (l := l.drop fo) (i := i.toNat) (by omega)
      have hx' : l[i.toNat * tb.sz E + fo]? = some x := by
        rw [List.getElem?_drop] at hx
        rw [Nat.eq_of_beq_eq_true h2, Nat.mul_one, Nat.add_comm]; exact hx
      have := QEx.loadP1 ho hag (hy u) (avL_get hx')
      rw [hxa] at this
      exact this
  · cases h

def isStD : TypeDesc → Option (Array Field)
  | .struct fs => some fs
  | _ => none
theorem isStD_e {d E} (h : isStD d = some E) : d = .struct E := by unfold isStD at h; split at h; cases h; rfl; cases h
def isArD : TypeDesc → Option (Nat × Nat)
  | .array n E => some (n, E)
  | _ => none
theorem isArD_e {d p} (h : isArD d = some p) : d = .array p.1 p.2 := by unfold isArD at h; split at h; cases h; rfl; cases h
/-- A field's place: the field, its size. -/
def fieldAt (P : Program) (t f : Nat) : Option (Field × Nat) := got (P.underlying t) fun D => got (isStD D) fun fs => got (fs[f]?) fun fd => got (tSz P fd.type) fun n => tst (Nat.ble 1 n) (some (fd, n))
theorem fieldAt_e {t f p} (h : fieldAt P t f = some p) : ∃ fs, P.underlying t = some (.struct fs) ∧ fs[f]? = some p.1 ∧ tSz P p.1.type = some p.2 ∧ 0 < p.2 := by
  unfold fieldAt at h
  obtain ⟨D, hD, h⟩ := got_e h
  obtain ⟨fs, hfs, h⟩ := got_e h
  obtain ⟨fd, hfd, h⟩ := got_e h
  obtain ⟨n, hn, h⟩ := got_e h
  obtain ⟨h1, h⟩ := tst_e h
  cases h
  rw [isStD_e hfs] at hD
  exact ⟨fs, hD, hfd, hn, Nat.le_of_ble_eq_true h1⟩
def qFieldA (P : Program) (L : SLS tb) (G : Gd) (t : Nat) (y : Operand) (f : Nat) (k : SV tb → List Nat → Option ρ) : Option ρ :=
  got (opd L G y) fun a => got (fieldAt P t f) fun p => match a with
  | .cp l => k (.cp ((l.drop p.1.offset).take p.2)) []
  | .ptr id off => k (.ptr id (off + p.1.offset)) []
  | .epr id E i fo => k (.epr id E i (fo + p.1.offset)) []
  | _ => none
theorem qFieldA_ok {L : SLS tb} {G o t y f} {k : SV tb → List Nat → Option ρ} {r} (ho : o.op = .fieldAddr t y f) (h : qFieldA P L G t y f k = some r) : QOk P L G o k r := by
  unfold qFieldA at h
  obtain ⟨a, ha, h⟩ := got_e h
  obtain ⟨p, hp, h⟩ := got_e h
  obtain ⟨fs, h1, h2, h3, h4⟩ := fieldAt_e hp
  have hy := fun u => opd_ok (L := L) (G := G) u ha
  split at h
  · refine ⟨_, [], h, fun u => ?_⟩
    have := QEx.fieldC ho h1 h2 h3 h4 (hy u)
    simp only [SV.av]; rw [avL_take, avL_drop]; exact this
  · exact ⟨_, [], h, fun u => QEx.fieldP ho h1 h2 h3 h4 (hy u)⟩
  · refine ⟨_, [], h, fun u => ?_⟩
    have := QEx.fieldP ho h1 h2 h3 h4 (hy u)
    simp only [SV.av] at this ⊢
    rw [Nat.add_assoc] at this; exact this
  · cases h

/-- What slices of this type hold: the element's type, its bytes. -/
def elemT (P : Program) (t sz : Nat) : Option (Nat × Nat) := got (P.underlying t) fun D => got (isSlD D) fun E => got (P.info? E) fun i => got i.zero fun z =>
  tst (Nat.beq i.size sz) <| tst (Nat.beq z.cells.size sz) <| tst (z.cells.toList.all oneCell) <| tst (Nat.ble 1 sz) (some (E, i.bytes))
theorem elemT_e {t sz p} (h : elemT P t sz = some p) : ElemT P t p.1 sz p.2 := by
  unfold elemT at h
  obtain ⟨D, hD, h⟩ := got_e h
  obtain ⟨E, hE, h⟩ := got_e h
  obtain ⟨i, hi, h⟩ := got_e h
  obtain ⟨z, hz, h⟩ := got_e h
  obtain ⟨h1, h⟩ := tst_e h
  obtain ⟨h2, h⟩ := tst_e h
  obtain ⟨h3, h⟩ := tst_e h
  obtain ⟨h4, h⟩ := tst_e h
  cases h
  rw [isSlD_e hE] at hD
  exact ⟨hD, ⟨i, z, hi, hz, Nat.eq_of_beq_eq_true h1, rfl, Nat.eq_of_beq_eq_true h2, h3⟩, Nat.le_of_ble_eq_true h4⟩

def isArr : Option (SC tb) → Bool
  | some (.arr _ _) => true
  | _ => false
def qIxA (cx : Ctx P tb) (L : SLS tb) (G : Gd) (t : Nat) (y z : Operand) (k : SV tb → List Nat → Option ρ) : Option ρ :=
  got (opd L G y) fun a => got (opd L G z) fun b => got (asI b) fun q => got (P.underlying t) fun D => match isSlD D with
  | some E' => got (tSz P E') fun n => (match a with
    | .sl _ E l => tst (Nat.beq n (tb.sz E)) <| chk G (0 ≤ q.2 ∧ q.2 < l.length) (Let (ixd (cx.cd E).inh l q.2) fun x => k (.cp ((cx.cd E).cs x)) [])
    | .row id E off len _ => tst (Nat.beq n (tb.sz E)) <| chk G (0 ≤ q.2 ∧ q.2 < len) (k (.epr id E ((off : Int) + q.2) 0) [])
    | .rw id E => (match arrAt L id E with
      | some l => tst (Nat.beq n (tb.sz E)) <| chk G (0 ≤ q.2 ∧ q.2 < l.length) (k (.epr id E q.2 0) [id])
      | none => match b with
        | .con _ => got (cellsAt L id) fun l => tst (Nat.beq n (tb.sz E)) <| tst (Nat.beq n 1) <| tst (allOne l) <| tst (decide (0 ≤ q.2 ∧ q.2 < l.length)) (k (.ptr id q.2.toNat) [id])
        | _ => none)
    | _ => none)
  | none => got (isArD D) fun p => got (tSz P p.2) fun n => (match a with
    | .ptr id off => (match b, isArr (find id L.h) with
      | .con _, false => tst (decide (0 ≤ q.2 ∧ q.2 < p.1)) (k (.ptr id (off + q.2.toNat * n)) [])
      | _, _ => match find id L.h with
        | some (.arr E _) => tst (Nat.beq n (tb.sz E)) <| tst (Nat.beq off 0) <| chk G (0 ≤ q.2 ∧ q.2 < p.1) (k (.epr id E q.2 0) [])
        | some (.cells _) => got (tb.look p.2) fun E => tst (Nat.beq n (tb.sz E)) <| chk G (0 ≤ q.2 ∧ q.2 < p.1) (k (.epr id E q.2 off) [])
        | _ => none)
    | .cp l => (match b with
      | .con _ => tst (decide (0 ≤ q.2 ∧ q.2 < p.1)) (k (.cp ((l.drop (q.2.toNat * n)).take n)) [])
      | _ => got (kindAt l) fun K => tst (Nat.beq n 1) <| tst (Nat.ble p.1 (intsK K l).length) <| chk G (0 ≤ q.2 ∧ q.2 < p.1) (Let (ixd 0 (intsK K l) q.2) fun x => k (.cp [.i K x]) []))
    | _ => none)
theorem qIxA_ok {L : SLS tb} {G o t y z} {k : SV tb → List Nat → Option ρ} {r} (ho : o.op = .indexAddr t y z) (h : qIxA cx L G t y z k = some r) : QOk P L G o k r := by
  unfold qIxA at h
  obtain ⟨a, ha, h⟩ := got_e h
  obtain ⟨b, hb, h⟩ := got_e h
  obtain ⟨q, hq, h⟩ := got_e h
  obtain ⟨D, hD, h⟩ := got_e h
  have hy := fun u => opd_ok (L := L) (G := G) u ha
  have hz := fun u => opd_ok (L := L) (G := G) u hb
  rw [asI_e hq] at hz
  split at h
  · rename_i E' hE
    rw [isSlD_e hE] at hD
    obtain ⟨n, hn, h⟩ := got_e h
    split at h
    · rename_i c E l _ _ _ _
      obtain ⟨h1, h⟩ := tst_e h
      rw [Nat.eq_of_beq_eq_true h1] at hn
      obtain ⟨hc, h⟩ := chk_e h
      refine ⟨_, [], h, fun u => ?_⟩
      have hc := hc u.on
      have := QEx.indexAddr (x := tb.el E (ixd (cx.cd E).inh l q.2)) ho hD hn (cx.ok E).pos (hy u) (hz u) hc.1 (by rw [List.getElem?_map, ixd_get hc]; rfl)
      simp only [SV.av]; rw [(cx.ok E).cs]; exact this
    · rename_i id E off len mc _ _ _ _
      obtain ⟨h1, h⟩ := tst_e h
      rw [Nat.eq_of_beq_eq_true h1] at hn
      obtain ⟨hc, h⟩ := chk_e h
      refine ⟨_, [], h, fun u => ?_⟩
      have hc := hc u.on
      have := QEx.indexR (need := []) ho hD hn ((hy u).r (by simp [ho, Op.operands])) (hz u) hc.1 hc.2
      simp only [SV.av]
      rw [show ((off : Int) + q.2).toNat * tb.sz E + 0 = off * tb.sz E + q.2.toNat * tb.sz E by rw [← Nat.add_mul, Nat.add_zero]; congr 1; omega]
      exact this
    · rename_i id E _ _ _ _
      split at h
      · rename_i l hl
        have hl := arrAt_e hl
        obtain ⟨h1, h⟩ := tst_e h
        rw [Nat.eq_of_beq_eq_true h1] at hn
        obtain ⟨hc, h⟩ := chk_e h
        refine ⟨_, _, h, fun u => ?_⟩
        have hc := hc u.on
        rw [needAV_one hl]
        have := QEx.indexR ho hD hn (ROk.rw (xs := l.map (tb.el E)) (hy u) (by simp [ho, Op.operands]) (show _ ∈ [(id, elC tb E l)] from List.mem_singleton.2 rfl) (elC_len cx.ok) (cx.ok E).pos) (hz u) hc.1 (by rw [List.length_map]; exact hc.2)
        rw [Nat.zero_add] at this
        exact this
      · split at h
        · obtain ⟨l, hl, h⟩ := got_e h
          have hl := cellsAt_e hl
          obtain ⟨h1, h⟩ := tst_e h
          obtain ⟨h2, h⟩ := tst_e h
          obtain ⟨h3, h⟩ := tst_e h
          obtain ⟨h4, h⟩ := tst_e h
          have h1 := Nat.eq_of_beq_eq_true h1
          have h2 := Nat.eq_of_beq_eq_true h2
          have h4 := of_decide_eq_true h4
          obtain ⟨g1, g2⟩ := allOne_flat h3
          refine ⟨_, _, h, fun u => ?_⟩
          rw [needAV_one hl]
          have hyu := hy u
          simp only [SV.av] at hyu
          rw [← h1, h2] at hyu
          rw [h2] at hn
          have := QEx.indexR ho hD hn (ROk.rw (xs := avL l) hyu (by simp [ho, Op.operands]) (show _ ∈ [(id, avL l)] from by rw [g1]; exact List.mem_singleton.2 rfl) g2 (by decide)) (hz u) h4.1 (by rw [avL_length]; exact h4.2)
          rw [Nat.zero_add, Nat.mul_one] at this
          exact this
        · cases h
    · cases h
  · obtain ⟨p, hp, h⟩ := got_e h
    rw [isArD_e hp] at hD
    obtain ⟨n, hn, h⟩ := got_e h
    split at h
    · rename_i id off _ _ _ _
      split at h
      · obtain ⟨h1, h⟩ := tst_e h
        have h1 := of_decide_eq_true h1
        exact ⟨_, [], h, fun u => QEx.indexP ho hD hn (hy u) (hz u) h1.1 h1.2⟩
      · split at h
        · rename_i E l hf
          obtain ⟨h1, h⟩ := tst_e h
          obtain ⟨h2, h⟩ := tst_e h
          obtain ⟨hc, h⟩ := chk_e h
          refine ⟨_, [], h, fun u => ?_⟩
          have hc := hc u.on
          have := QEx.indexP ho hD hn (hy u) (hz u) hc.1 hc.2
          rw [Nat.eq_of_beq_eq_true h2, Nat.eq_of_beq_eq_true h1, Nat.zero_add] at this
          exact this
        · obtain ⟨E, hE, h⟩ := got_e h
          obtain ⟨h1, h⟩ := tst_e h
          obtain ⟨hc, h⟩ := chk_e h
          refine ⟨_, [], h, fun u => ?_⟩
          have hc := hc u.on
          have := QEx.indexP ho hD hn (hy u) (hz u) hc.1 hc.2
          rw [Nat.eq_of_beq_eq_true h1, Nat.add_comm] at this
          exact this
        · cases h
    · rename_i l _ _ _ _ _
      split at h
      · obtain ⟨h1, h⟩ := tst_e h
        have h1 := of_decide_eq_true h1
        refine ⟨_, [], h, fun u => ?_⟩
        have := QEx.indexC ho hD hn (hy u) (hz u) h1.1 h1.2
        simp only [SV.av]; rw [avL_take, avL_drop]; exact this
      · obtain ⟨K, hK, h⟩ := got_e h
        obtain ⟨h1, h⟩ := tst_e h
        obtain ⟨h2, h⟩ := tst_e h
        obtain ⟨hc, h⟩ := chk_e h
        have h := (show k (.cp [.i K (ixd 0 (intsK K l) q.2)]) [] = some r from h)
        refine ⟨_, [], h, fun u => ?_⟩
        have hc := hc u.on
        have h2 := Nat.le_of_ble_eq_true h2
        have := QEx.indexC ho hD hn (hy u) (hz u) hc.1 hc.2
        obtain ⟨x, hx, hxa⟩ := intsK_get (K := K) (l := l) (i := q.2.toNat) (by omega)
        rw [Nat.eq_of_beq_eq_true h1, Nat.mul_one] at this
        have e1 : ((avL l).drop q.2.toNat).take 1 = [x.av] := by
          have hlt : q.2.toNat < (avL l).length := by
            rw [avL_length]
            rcases Nat.lt_or_ge q.2.toNat l.length with h | h
            · exact h
            · rw [List.getElem?_eq_none h] at hx; cases hx
          have := avL_get hx
          rw [List.getElem?_eq_getElem hlt] at this
          rw [List.drop_eq_getElem_cons hlt]
          simp only [List.take_succ_cons, List.take_zero]
          rw [Option.some.inj this]
        rw [e1, hxa] at this
        exact this
    · cases h
end
end Go.Rx
end

section
/-
  More operations that only yield a value, run on symbolic values. No conditions.
-/
set_option linter.all false
namespace Go.Rx
open Go.RowKit
variable [GlC]

section
variable {P : Program} {tb : Tb} {ρ : Type} {cx : Ctx P tb}

/-- How many. -/
def lenS (l : List (SV tb)) : Nat := l.length
theorem mem1 {α : Type} {a : α} : a ∈ [a] := List.mem_singleton.2 rfl
/-- len of an own slice, of others. -/
def qLen2 (cx : Ctx P tb) (L : SLS tb) (G : Gd) (y : Operand) (t : Nat) (k : SV tb → List Nat → Option ρ) : Option ρ :=
  got (opd L G y) fun a => match a with
  | .rw id E => got (P.underlying t) fun D => got (isSlD D) fun _ => (match arrAt L id E with
    | some l => Let (l.length : Int) fun n => k (.i .i64 n) [id]
    | none => got (cellsAt L id) fun l => tst (Nat.beq (tb.sz E) 1) <| tst (allOne l) <| k (.con (.int .i64 (lenS l))) [id])
  | _ => qLen P L G y t k
theorem qLen2_ok {L : SLS tb} {G o y t} {k : SV tb → List Nat → Option ρ} {r} (ho : o.op = .call { callee := .builtin .len, args := #[y], argTypes := #[t] }) (h : qLen2 cx L G y t k = some r) : QOk P L G o k r := by
  unfold qLen2 at h
  obtain ⟨a, ha, h2⟩ := got_e h
  have hy := fun u => opd_ok (L := L) (G := G) u ha
  clear h
  cases a with
  | rw id E =>
    obtain ⟨D, hD, h⟩ := got_e h2; clear h2
    obtain ⟨E', hE, h⟩ := got_e h
    rw [isSlD_e hE] at hD
    split at h
    · rename_i l hl
      have hl := arrAt_e hl
      refine ⟨_, _, h, fun u => ?_⟩
      rw [needAV_one hl]
      have := QEx.lenR ho hD (ROk.rw (xs := l.map (tb.el E)) (hy u) (by simp [ho, Op.operands, Call.operands]) (show _ ∈ [(id, elC tb E l)] from mem1) (elC_len cx.ok) (cx.ok E).pos)
      rw [List.length_map] at this
      exact this
    · obtain ⟨l, hl, h⟩ := got_e h
      have hl := cellsAt_e hl
      obtain ⟨h1, h⟩ := tst_e h
      obtain ⟨h2, h⟩ := tst_e h
      obtain ⟨g1, g2⟩ := allOne_flat h2
      refine ⟨_, _, h, fun u => ?_⟩
      rw [needAV_one hl]
      have hyu := hy u
      simp only [SV.av] at hyu
      rw [Nat.eq_of_beq_eq_true h1] at hyu
      have := QEx.lenR ho hD (ROk.rw (xs := avL l) hyu (by simp [ho, Op.operands, Call.operands]) (show _ ∈ [(id, avL l)] from by rw [g1]; exact mem1) g2 (by decide))
      rw [avL_length] at this
      exact this
  | _ => exact qLen_ok ho h2

theorem qMM_ok {L : SLS tb} {G o b x y ts} {k : SV tb → List Nat → Option ρ} {r} (ho : (b = true ∧ o.op = .call { callee := .builtin .max, args := #[x, y], argTypes := ts }) ∨ (b = false ∧ o.op = .call { callee := .builtin .min, args := #[x, y], argTypes := ts }))
    (h : qMM L G b x y k = some r) : QOk P L G o k r := by
  unfold qMM at h
  obtain ⟨a, ha, h⟩ := got_e h
  obtain ⟨b, hb, h⟩ := got_e h
  obtain ⟨p, hp, h⟩ := got_e h
  obtain ⟨q, hq, h⟩ := got_e h
  obtain ⟨h1, h⟩ := tst_e h
  have hx := fun u => opd_ok (L := L) (G := G) u ha
  have hy := fun u => opd_ok (L := L) (G := G) u hb
  rw [asI_e hp] at hx
  rw [asI_e hq, ← of_decide_eq_true h1] at hy
  rcases ho with ⟨rfl, ho⟩ | ⟨rfl, ho⟩
  · exact ⟨_, [], h, fun u => QEx.max2 ho (hx u) (hy u)⟩
  · exact ⟨_, [], h, fun u => QEx.min2 ho (hx u) (hy u)⟩

/-! parts -/
def sub {α : Type} (l : List α) (a b : Int) : List α := (l.drop a.toNat).take (b.toNat - a.toNat)
def qIx (cx : Ctx P tb) (L : SLS tb) (G : Gd) (t : Nat) (y z : Operand) (k : SV tb → List Nat → Option ρ) : Option ρ :=
  got (opd L G y) fun a => got (opd L G z) fun b => got (asI b) fun q => got (P.underlying t) fun D => match isStrD D with
  | true => got (asS a) fun s => chk G (0 ≤ q.2 ∧ q.2 < s.length) (Let (ix s q.2) fun c => k (.b8 c) [])
  | false => got (isArD D) fun p => got (tSz P p.2) fun n => got (tAg P p.2) fun ag => tst (!ag) (match a, b with
    | .agg l, .con _ => tst (decide (0 ≤ q.2 ∧ q.2 < p.1)) (got (nth l (q.2.toNat * n)) fun x => k x [])
    | .agg l, _ => (match Nat.ble p.1 (strsS l).length with
      | true => tst (Nat.beq n 1) <| chk G (0 ≤ q.2 ∧ q.2 < p.1) (Let (ixd [] (strsS l) q.2) fun x => k (.st x) [])
      | false => got (kindAt l) fun K => tst (Nat.beq n 1) <| tst (Nat.ble p.1 (intsK K l).length) <| chk G (0 ≤ q.2 ∧ q.2 < p.1) (Let (ixd 0 (intsK K l) q.2) fun x => k (.i K x) []))
    | _, _ => none)
theorem qIx_ok {L : SLS tb} {G o t y z} {k : SV tb → List Nat → Option ρ} {r} (ho : o.op = .index t y z) (h : qIx cx L G t y z k = some r) : QOk P L G o k r := by
  unfold qIx at h
  obtain ⟨a, ha, h⟩ := got_e h
  obtain ⟨b, hb, h⟩ := got_e h
  obtain ⟨q, hq, h⟩ := got_e h
  obtain ⟨D, hD, h⟩ := got_e h
  have hy := fun u => opd_ok (L := L) (G := G) u ha
  have hz := fun u => opd_ok (L := L) (G := G) u hb
  rw [asI_e hq] at hz
  split at h
  · rename_i hs
    rw [isStrD_e hs] at hD
    obtain ⟨s, hs2, h⟩ := got_e h
    obtain ⟨hc, h⟩ := chk_e h
    rw [asS_e hs2] at hy
    exact ⟨_, [], h, fun u => QEx.idxS ho hD (hy u) (hz u) (hc u.on)⟩
  · obtain ⟨p, hp, h⟩ := got_e h
    obtain ⟨n, hn, h⟩ := got_e h
    obtain ⟨ag, hag, h⟩ := got_e h
    obtain ⟨h1, h5⟩ := tst_e h
    rw [isArD_e hp] at hD
    have : ag = false := by cases ag <;> simp_all
    rw [this] at hag
    clear h
    split at h5
    · obtain ⟨h2, h3⟩ := tst_e h5
      obtain ⟨x, hx, h4⟩ := got_e h3
      rw [nth_e] at hx
      exact ⟨_, [], h4, fun u => QEx.idxA ho hD hn hag (hy u) (hz u) (of_decide_eq_true h2) (avL_get hx)⟩
    · rename_i l _ _ _ _ _ _
      split at h5
      · rename_i hb
        obtain ⟨h1, h⟩ := tst_e h5
        obtain ⟨hc, h⟩ := chk_e h
        have h := (show k (.st (ixd [] (strsS l) q.2)) [] = some r from h)
        refine ⟨_, [], h, fun u => ?_⟩
        have hc := hc u.on
        have h2 := Nat.le_of_ble_eq_true hb
        obtain ⟨x, hx, hxa⟩ := strsS_get (l := l) (i := q.2.toNat) (by omega)
        have hx' : l[q.2.toNat * n]? = some x := by rw [Nat.eq_of_beq_eq_true h1, Nat.mul_one]; exact hx
        have := QEx.idxA ho hD hn hag (hy u) (hz u) hc (avL_get hx')
        rw [hxa] at this
        exact this
      obtain ⟨K, hK, h⟩ := got_e h5
      obtain ⟨h1, h⟩ := tst_e h
      obtain ⟨h2, h⟩ := tst_e h
      obtain ⟨hc, h⟩ := chk_e h
      have h := (show k (.i K (ixd 0 (intsK K l) q.2)) [] = some r from h)
      refine ⟨_, [], h, fun u => ?_⟩
      have hc := hc u.on
      have h2 := Nat.le_of_ble_eq_true h2
      obtain ⟨x, hx, hxa⟩ := intsK_get (K := K) (l := l) (i := q.2.toNat) (by omega)
      have hx' : l[q.2.toNat * n]? = some x := by rw [Nat.eq_of_beq_eq_true h1, Nat.mul_one]; exact hx
      have := QEx.idxA ho hD hn hag (hy u) (hz u) hc (avL_get hx')
      rw [hxa] at this
      exact this
    · cases h5
def qField (P : Program) (L : SLS tb) (G : Gd) (t : Nat) (y : Operand) (f : Nat) (k : SV tb → List Nat → Option ρ) : Option ρ :=
  got (opd L G y) fun a => got (fieldAt P t f) fun p => got (tAg P p.1.type) fun ag => match a with
  | .agg l => (match ag with
    | true => k (.agg ((l.drop p.1.offset).take p.2)) []
    | false => got (nth l p.1.offset) fun x => k x [])
  | _ => none
theorem qField_ok {L : SLS tb} {G o t y f} {k : SV tb → List Nat → Option ρ} {r} (ho : o.op = .field t y f) (h : qField P L G t y f k = some r) : QOk P L G o k r := by
  unfold qField at h
  obtain ⟨a, ha, h⟩ := got_e h
  obtain ⟨p, hp, h⟩ := got_e h
  obtain ⟨ag, hag, h⟩ := got_e h
  obtain ⟨fs, h1, h2, h3, h4⟩ := fieldAt_e hp
  have hy := fun u => opd_ok (L := L) (G := G) u ha
  split at h
  · split at h
    · refine ⟨_, [], h, fun u => QEx.field ho h1 h2 h3 hag (hy u) (.inl ⟨rfl, ?_⟩)⟩
      simp only [SV.av]; rw [avL_take, avL_drop]
    · obtain ⟨x, hx, h⟩ := got_e h
      rw [nth_e] at hx
      exact ⟨_, [], h, fun u => QEx.field ho h1 h2 h3 hag (hy u) (.inr ⟨rfl, avL_get hx⟩)⟩
  · cases h

/-! slices -/
def nOr (q : Option Int) (d : Nat) : Nat := match q with | none => d | some n => n.toNat
def optI (L : SLS tb) (G : Gd) : Option Operand → Option (Option Int)
  | none => some none
  | some y => got (opd L G y) fun a => match asI a with
    | some p => some (some p.2)
    | none => got (asC a) fun c => some (some (c.toNat : Int))
theorem optI_ok {L : SLS tb} {G y q d} (u : Gu L G) (h : optI L G y = some q) (h0 : 0 ≤ q.getD 0) : BoundOk L.E y d (nOr q d) := by
  cases y with
  | none => cases h; exact .none
  | some y =>
    obtain ⟨a, ha, h⟩ := got_e (h : got (opd L G y) _ = _)
    have hy := opd_ok u ha
    split at h
    · rename_i p hp
      cases h
      rw [asI_e hp] at hy
      exact .some hy h0
    · obtain ⟨c, hc, h⟩ := got_e h
      cases h
      rw [asC_e hc] at hy
      exact .some (k := .u8) hy h0
/-- The part from lo to hi, where n are known. -/
def cutB {α : Type} (G : Gd) (l : List α) (lo hi : Option Int) (k : List α → Option ρ) : Option ρ := match lo, hi with
  | none, none => k l
  | some a, none => chk G (0 ≤ a ∧ a ≤ l.length) (Let (l.drop a.toNat) k)
  | none, some b => chk G (0 ≤ b ∧ b ≤ l.length) (Let (l.take b.toNat) k)
  | some a, some b => chk G (0 ≤ a ∧ a ≤ b ∧ b ≤ l.length) (Let (sub l a b) k)
theorem cutB_e {α : Type} {G : Gd} {l : List α} {lo hi : Option Int} {k : List α → Option ρ} {r : ρ} (h : cutB G l lo hi k = some r) : ∃ x, k x = some r ∧ (gc G = true → 0 ≤ lo.getD 0 ∧ 0 ≤ hi.getD 0 ∧
    nOr lo 0 ≤ nOr hi l.length ∧ nOr hi l.length ≤ l.length ∧
    x = (l.drop (nOr lo 0)).take (nOr hi l.length - nOr lo 0)) := by
  unfold cutB at h
  split at h
  · exact ⟨_, h, fun _ => by simp [nOr]⟩
  · obtain ⟨hc, h⟩ := chk_e h
    refine ⟨_, h, fun u => ?_⟩
    obtain ⟨h1, h2⟩ := hc u
    refine ⟨h1, by simp, by simp only [nOr]; omega, Nat.le_refl _, ?_⟩
    simp only [nOr]; rw [List.take_of_length_le (by simp)]
  · obtain ⟨hc, h⟩ := chk_e h
    refine ⟨_, h, fun u => ?_⟩
    obtain ⟨h1, h2⟩ := hc u
    exact ⟨by simp, h1, by simp only [nOr]; omega, by simp only [nOr]; omega, by simp [nOr]⟩
  · obtain ⟨hc, h⟩ := chk_e h
    refine ⟨_, h, fun u => ?_⟩
    obtain ⟨h1, h2, h3⟩ := hc u
    exact ⟨h1, by simp only [Option.getD_some]; omega, by simp only [nOr]; omega, by simp only [nOr]; omega, rfl⟩
/-- The same of an own slice. -/
def qSlice (cx : Ctx P tb) (L : SLS tb) (G : Gd) (t : Nat) (y : Operand) (lo hi : Option Operand) (k : SV tb → List Nat → Option ρ) : Option ρ :=
  got (opd L G y) fun a => got (optI L G lo) fun p => got (optI L G hi) fun q => got (P.underlying t) fun D => match isStrD D with
  | true => got (asS a) fun s => cutB G s p q fun x => k (.st x) []
  | false => match a with
    | .sl _ E l => got (elemT P t (tb.sz E)) fun _ => cutB G l p q fun x => k (.sl false E x) []
    | .row id E off len mc => got (elemT P t (tb.sz E)) fun _ => chk G (0 ≤ p.getD 0 ∧ 0 ≤ q.getD 0 ∧ nOr p 0 ≤ nOr q len ∧ nOr q len ≤ mc ∧ len ≤ mc) (k (.row id E (off + nOr p 0) (nOr q len - nOr p 0) (mc - nOr p 0)) [])
    | .rw id E => got (elemT P t (tb.sz E)) fun _ => got (arrAt L id E) fun l => chk G (0 ≤ p.getD 0 ∧ 0 ≤ q.getD 0 ∧ nOr p 0 ≤ nOr q l.length ∧ nOr q l.length ≤ l.length) (k (.row id E (nOr p 0) (nOr q l.length - nOr p 0) (l.length - nOr p 0)) [id])
    | .ptr id off => got (isArD D) fun ar => got (tSz P ar.2) fun n => (match find id L.h with
      | some (.arr E _) => got (arrAt L id E) fun l => tst (Nat.beq off 0) <| tst (Nat.beq n (tb.sz E)) <| chk G (0 ≤ p.getD 0 ∧ 0 ≤ q.getD 0 ∧ nOr p 0 ≤ nOr q ar.1 ∧ nOr q ar.1 ≤ ar.1 ∧ ar.1 ≤ l.length) (k (.row id E (nOr p 0) (nOr q ar.1 - nOr p 0) (ar.1 - nOr p 0)) [id])
      | _ => none)
    | _ => none
theorem qSlice_ok {L : SLS tb} {G o t y lo hi} {k : SV tb → List Nat → Option ρ} {r} (ho : o.op = .slice t y lo hi none) (h : qSlice cx L G t y lo hi k = some r) : QOk P L G o k r := by
  unfold qSlice at h
  obtain ⟨a, ha, h2⟩ := got_e h
  clear h
  obtain ⟨p, hp, h⟩ := got_e h2; clear h2
  obtain ⟨q, hq, h2⟩ := got_e h; clear h
  obtain ⟨D, hD, h⟩ := got_e h2; clear h2
  have hy := fun u => opd_ok (L := L) (G := G) u ha
  split at h
  · rename_i hs
    rw [isStrD_e hs] at hD
    obtain ⟨s, hs2, h⟩ := got_e h
    rw [asS_e hs2] at hy
    obtain ⟨x, h, hc⟩ := cutB_e h
    refine ⟨_, [], h, fun u => ?_⟩
    obtain ⟨h1, h2, h3, h4, rfl⟩ := hc u.on
    exact QEx.slStr ho hD (hy u) (optI_ok u hp h1) (optI_ok u hq h2) ⟨h3, h4⟩
  · cases a with
    | sl c E l =>
      obtain ⟨ET, hE, h⟩ := got_e h
      obtain ⟨x, h, hc⟩ := cutB_e h
      refine ⟨_, [], h, fun u => ?_⟩
      obtain ⟨h1, h2, h3, h4, rfl⟩ := hc u.on
      have := QEx.slice ho (elemT_e hE) (hy u) (optI_ok u hp h1) (optI_ok (d := (l.map (tb.el E)).length) u hq h2) (by simpa using h3) (by simpa using h4)
      simp only [SV.av, List.map_take, List.map_drop]
      rw [List.length_map] at this; exact this
    | row id E off len mc =>
      obtain ⟨ET, hE, h⟩ := got_e h
      obtain ⟨hc, h⟩ := chk_e h
      refine ⟨_, [], h, fun u => ?_⟩
      obtain ⟨h1, h2, h3, h4, h5⟩ := hc u.on
      have := QEx.sliceR (need := []) ho (elemT_e hE) ((hy u).r (by simp [ho, Op.operands])) (optI_ok u hp h1) (optI_ok (d := len) u hq h2) h3 h4 (fun _ => h5)
      simp only [SV.av]
      rw [Nat.add_mul]; exact this
    | rw id E =>
      obtain ⟨ET, hE, h⟩ := got_e h
      obtain ⟨l, hl, h⟩ := got_e h
      have hl := arrAt_e hl
      obtain ⟨hc, h⟩ := chk_e h
      refine ⟨_, _, h, fun u => ?_⟩
      obtain ⟨h1, h2, h3, h4⟩ := hc u.on
      rw [needAV_one hl]
      have := QEx.sliceR ho (elemT_e hE) (ROk.rw (xs := l.map (tb.el E)) (hy u) (by simp [ho, Op.operands]) (show _ ∈ [(id, elC tb E l)] from mem1) (elC_len cx.ok) (cx.ok E).pos)
        (optI_ok u hp h1) (optI_ok (d := (l.map (tb.el E)).length) u hq h2) (by simpa using h3) (by simpa using h4) (fun _ => Nat.le_refl _)
      rw [List.length_map, Nat.zero_add] at this
      exact this
    | ptr id off =>
      obtain ⟨ar, har, h⟩ := got_e h
      rw [isArD_e har] at hD
      obtain ⟨n, hn, h⟩ := got_e h
      split at h
      · obtain ⟨l, hl, h⟩ := got_e h
        have hl := arrAt_e hl
        obtain ⟨h0, h⟩ := tst_e h
        obtain ⟨h1, h⟩ := tst_e h
        have h0 := Nat.eq_of_beq_eq_true h0
        rw [Nat.eq_of_beq_eq_true h1] at hn
        obtain ⟨hc, h⟩ := chk_e h
        refine ⟨_, _, h, fun u => ?_⟩
        obtain ⟨h1, h2, h3, h4, h5⟩ := hc u.on
        rw [needAV_one hl]
        have := QEx.sliceA (l := elC tb _ l) ho hD hn (hy u) (optI_ok u hp h1) (optI_ok (d := ar.1) u hq h2) h3 h4 (by rw [elC_length cx, h0, Nat.zero_add]; exact Nat.mul_le_mul_right _ h5)
        rw [h0, Nat.zero_add] at this
        exact this
      · cases h
    | _ => cases h
def qSlice3 (P : Program) (L : SLS tb) (G : Gd) (t : Nat) (y hi mx : Operand) (k : SV tb → List Nat → Option ρ) : Option ρ :=
  got (opd L G y) fun a => got (opd L G hi) fun b => got (asI b) fun p => got (opd L G mx) fun c => got (asI c) fun q => match a with
  | .sl _ E l => got (elemT P t (tb.sz E)) fun _ => chk G (0 ≤ p.2 ∧ p.2 ≤ l.length ∧ q.2 = p.2) (Let (l.take p.2.toNat) fun x => k (.sl true E x) [])
  | _ => none
theorem QEx.capT {o : Oper} {e : Env} {y t sz l} (ho : o.op = .call { callee := .builtin .cap, args := #[y], argTypes := #[t] }) (ht : ∃ E, P.underlying t = some (.slice E)) (hy : OpdOk e y (.sl true sz l)) :
    QEx P o e [] (.v (.int .i64 l.length)) :=
  .pure fun _ _ _ _ _ ac w _ _ hr => by
    have h1 := hy.rep hr (by simp [ho, Op.operands, Call.operands])
    obtain ⟨E, hE⟩ := ht
    refine ⟨_, ?_, .v⟩
    obtain ⟨ad, n, cap, cs, hv, h2, -, -, -, -, -, h3, -⟩ := sl_cells h1
    have h3 := h3 rfl
    subst h3
    rw [← h2]
    simp [execOp, ho, hv, resolve, invoke, builtin, Builtin.cap_, underlying, hE, goInt]
/-- The capacity, where it is known. -/
def qCap (P : Program) (L : SLS tb) (G : Gd) (y : Operand) (t : Nat) (k : SV tb → List Nat → Option ρ) : Option ρ :=
  got (opd L G y) fun a => got (P.underlying t) fun D => got (isSlD D) fun _ => match isNil a with
  | true => k (.i .i64 0) []
  | false => match a with
    | .em _ => k (.i .i64 0) []
    | .sl true _ l => Let (l.length : Int) fun n => k (.i .i64 n) []
    | _ => none
theorem qCap_ok {L : SLS tb} {G o y t} {k : SV tb → List Nat → Option ρ} {r} (ho : o.op = .call { callee := .builtin .cap, args := #[y], argTypes := #[t] }) (h : qCap P L G y t k = some r) : QOk P L G o k r := by
  unfold qCap at h
  obtain ⟨a, ha, h⟩ := got_e h
  obtain ⟨D, hD, h⟩ := got_e h
  obtain ⟨E, hE, h⟩ := got_e h
  rw [isSlD_e hE] at hD
  have hy := fun u => opd_ok (L := L) (G := G) u ha
  split at h
  · rename_i hn
    refine ⟨_, [], h, fun u => ?_⟩
    have h1 : OpdOk L.E y (.sl true 1 []) := (hy u).sub (by rw [isNil_e hn]; exact .nil)
    exact QEx.capT ho ⟨_, hD⟩ h1
  · split at h
    · exact ⟨_, [], h, fun u => QEx.capT ho ⟨_, hD⟩ (hy u)⟩
    · refine ⟨_, [], h, fun u => ?_⟩
      have := QEx.capT ho ⟨_, hD⟩ (hy u)
      rw [List.length_map] at this
      exact this
    · cases h
end
end Go.Rx
end

section
/-
  Values built, functions called, run on symbolic values. No conditions.
-/
set_option linter.all false
namespace Go.Rx
open Go.RowKit
variable [GlC]

section
variable {P : Program} {tb : Tb} {ρ : Type} {cx : Ctx P tb}

def cellsS : SV tb → List (SV tb)
  | .agg l => l
  | x => [x]
theorem cellsS_av (x : SV tb) (h : ∀ G y, x ≠ .opt G y) : avL (cellsS x) = x.av.cells := by cases x <;> first | rfl | exact absurd rfl (h _ _)
def solidS : SV tb → Bool
  | .agg _ => true
  | .i _ _ => true
  | .b8 _ => true
  | .bo _ => true
  | .st _ => true
  | .con v => oneCell v
  | .sl _ _ _ => true
  | .em _ => true
  | .cp _ => true
  | .fn _ _ => true
  | .cl _ _ _ _ _ _ => true
  | .ptr _ _ => true
  | .epr _ _ _ _ => true
  | .row _ _ _ _ _ => true
  | .rw _ _ => true
  | .ifc _ _ => true
  | _ => false
theorem solidS_e {x : SV tb} (h : solidS x = true) : x.av.solid = true ∧ avL (cellsS x) = x.av.cells := by
  refine ⟨?_, cellsS_av x ?_⟩
  · cases x <;> first | rfl | (simp [solidS] at h; done) | exact h
  · rintro G y rfl; simp [solidS] at h

/-! structs -/
def fillS (L : SLS tb) (G : Gd) (pl : Nat → Option (Nat × Nat)) : List (Nat × Operand) → List (SV tb) → Option (List (SV tb))
  | [], Z => some Z
  | (i, y) :: r, Z => got (pl i) fun p => got (opd L G y) fun x => tst (solidS x) <| tst (Nat.beq (cellsS x).length p.2) <| tst (Nat.ble (p.1 + p.2) Z.length) <| fillS L G pl r (Z.take p.1 ++ cellsS x ++ Z.drop (p.1 + p.2))
theorem fillS_ok {L : SLS tb} {G pl} (u : Gu L G) : ∀ {ps : List (Nat × Operand)} {Z Z'}, fillS L G pl ps Z = some Z' → FillOk L.E pl ps (avL Z) (avL Z')
  | [], _, _, h => by cases h; exact .nil
  | (i, y) :: r, Z, Z', h => by
    unfold fillS at h
    obtain ⟨p, hp, h⟩ := got_e h
    obtain ⟨x, hx, h⟩ := got_e h
    obtain ⟨h1, h⟩ := tst_e h
    obtain ⟨h2, h⟩ := tst_e h
    obtain ⟨h3, h⟩ := tst_e h
    obtain ⟨g1, g2⟩ := solidS_e h1
    refine .cons (off := p.1) (sz := p.2) hp (opd_ok u hx) g1 (by rw [← g2, avL_length]; exact Nat.eq_of_beq_eq_true h2) (by rw [avL_length]; exact Nat.le_of_ble_eq_true h3) ?_
    have := fillS_ok u h
    rwa [avL_append, avL_append, avL_take, avL_drop, g2] at this
theorem Zs.con : ∀ zs : List Value, Zs (avL (tb := tb) (zs.map SV.con)) zs
  | [] => .nil
  | z :: zs => .v (Zs.con zs)
def zeroS (P : Program) (t : Nat) : Option (List (SV tb)) := got (tZero P t) fun zs => tst (zs.all oneCell) (some (zs.map SV.con))
theorem zeroS_e {t Z} (h : zeroS (tb := tb) P t = some Z) : ZeroT P t (avL Z) := by
  obtain ⟨zs, hz, h⟩ := got_e h
  obtain ⟨h1, h⟩ := tst_e h
  cases h
  exact ⟨zs, hz, Zs.con zs, h1⟩
def qBuild (P : Program) (L : SLS tb) (G : Gd) (t : Nat) (ps : Array (Nat × Operand)) (k : SV tb → List Nat → Option ρ) : Option ρ :=
  got (P.underlying t) fun D => got (zeroS P t) fun Z => match isStD D with
  | some fs => tst (fs.toList.all fun f => (tSz P f.type).isSome) <| got (fillS L G (fieldPl P fs) ps.toList Z) fun Z' => k (.agg Z') []
  | none => got (isArD D) fun p => got (tSz P p.2) fun sz => got (fillS L G (fun i => some (i * sz, sz)) ps.toList Z) fun Z' => k (.agg Z') []
theorem qBuild_ok {L : SLS tb} {G o t ps} {k : SV tb → List Nat → Option ρ} {r} (ho : o.op = .build t ps) (h : qBuild P L G t ps k = some r) : QOk P L G o k r := by
  unfold qBuild at h
  obtain ⟨D, hD, h⟩ := got_e h
  obtain ⟨Z, hZ, h⟩ := got_e h
  have hZ := zeroS_e hZ
  split at h
  · rename_i fs hfs
    rw [isStD_e hfs] at hD
    obtain ⟨h1, h⟩ := tst_e h
    obtain ⟨Z', hZ', h⟩ := got_e h
    exact ⟨_, [], h, fun u => QEx.buildZ ho hD hZ h1 (fillS_ok u hZ')⟩
  · obtain ⟨p, hp, h⟩ := got_e h
    rw [isArD_e hp] at hD
    obtain ⟨sz, hsz, h⟩ := got_e h
    obtain ⟨Z', hZ', h⟩ := got_e h
    exact ⟨_, [], h, fun u => QEx.buildA ho hD hsz hZ (fillS_ok u hZ')⟩

def elemsS (cx : Ctx P tb) (L : SLS tb) (G : Gd) (E : tb.Ix) : Nat → List (Nat × Operand) → Option (List (tb.T E))
  | _, [] => some []
  | i, (j, y) :: r => tst (Nat.beq j i) <| got (opd L G y) fun x => got ((cx.cd E).of x) fun v => got (elemsS cx L G E (i + 1) r) fun l => some (v :: l)
theorem elemsS_ok {L : SLS tb} {G E} (u : Gu L G) : ∀ {ps : List (Nat × Operand)} {i l}, elemsS cx L G E i ps = some l → ElemsOk L.E (tb.sz E) i ps (l.map (tb.el E))
  | [], _, _, h => by cases h; exact .nil
  | (j, y) :: r, i, l, h => by
    unfold elemsS at h
    obtain ⟨h1, h⟩ := tst_e h
    obtain ⟨x, hx, h⟩ := got_e h
    obtain ⟨v, hv, h⟩ := got_e h
    obtain ⟨l', hl', h⟩ := got_e h
    cases h
    obtain rfl := Nat.eq_of_beq_eq_true h1
    exact .cons ((opd_ok u hx).sub ((cx.ok E).of _ _ hv)) ((cx.ok E).solid v) ((cx.ok E).len v) ((cx.ok E).bare v).1 (elemsS_ok u hl')
def qBuildS (cx : Ctx P tb) (L : SLS tb) (G : Gd) (t n : Nat) (ps : Array (Nat × Operand)) (k : SV tb → List Nat → Option ρ) : Option ρ :=
  got (P.underlying t) fun D => got (isSlD D) fun E' => got (tb.look E') fun E => got (elemT P t (tb.sz E)) fun _ => got (elemsS cx L G E 0 ps.toList) fun l => tst (Nat.beq l.length n) <| tst (Nat.ble (n * tb.sz E) (2 ^ 24)) <| match n with | 0 => k (.em E) [] | _ + 1 => k (.sl true E l) []
theorem qBuildS_ok {L : SLS tb} {G o t n ps} {k : SV tb → List Nat → Option ρ} {r} (ho : o.op = .buildSlice t n ps) (h : qBuildS cx L G t n ps k = some r) : QOk P L G o k r := by
  unfold qBuildS at h
  obtain ⟨D, hD, h⟩ := got_e h
  obtain ⟨E', hE', h⟩ := got_e h
  obtain ⟨E, hE, h⟩ := got_e h
  obtain ⟨p, hp, h⟩ := got_e h
  obtain ⟨l, hl, h⟩ := got_e h
  obtain ⟨h1, h⟩ := tst_e h
  obtain ⟨h2, h⟩ := tst_e h
  have key := fun u => QEx.buildSlice ho (elemT_e hp) (elemsS_ok u hl) (by rw [List.length_map]; exact Nat.eq_of_beq_eq_true h1) (Nat.le_of_ble_eq_true h2)
  have hl0 := Nat.eq_of_beq_eq_true h1
  cases n with
  | zero =>
    have : l = [] := List.eq_nil_of_length_eq_zero hl0
    subst this
    exact ⟨_, [], h, key⟩
  | succ n => exact ⟨_, [], h, key⟩

def opdsS (L : SLS tb) (G : Gd) : List Operand → Option (List (SV tb))
  | [] => some []
  | y :: r => got (opd L G y) fun x => got (opdsS L G r) fun l => some (x :: l)
theorem opdsS_ok {L : SLS tb} {G} (u : Gu L G) : ∀ {ys : List Operand} {l}, opdsS L G ys = some l → OpdsOk L.E ys (avL l)
  | [], _, h => by cases h; exact .nil
  | y :: r, l, h => by
    unfold opdsS at h
    obtain ⟨x, hx, h⟩ := got_e h
    obtain ⟨l', hl', h⟩ := got_e h
    cases h
    exact .cons (opd_ok u hx) (opdsS_ok u hl')
def qMkF (L : SLS tb) (G : Gd) (fn : Fn) (fi ca : Array Operand) (k : SV tb → List Nat → Option ρ) : Option ρ := match fn, fi.toList with
  | .func f, [] => got (opdsS L G ca.toList) fun l => k (.fn f l) []
  | _, _ => none
theorem qMkF_ok {L : SLS tb} {G o fn fi ca} {k : SV tb → List Nat → Option ρ} {r} (ho : o.op = .makeFunc fn fi ca) (h : qMkF L G fn fi ca k = some r) : QOk P L G o k r := by
  unfold qMkF at h
  split at h
  · rename_i f hfi
    obtain ⟨l, hl, h⟩ := got_e h
    exact ⟨_, [], h, fun u => QEx.mkF ho (by cases fi; simpa using hfi) (opdsS_ok u hl)⟩
  · cases h
def qNil (L : SLS tb) (G : Gd) (y : Operand) (k : SV tb → List Nat → Option ρ) : Option ρ := got (opd L G y) fun a => match a with
  | .cp _ => k .undef []
  | .ptr id off => k (.ptr id off) []
  | .epr id E i fo => k (.epr id E i fo) []
  | _ => none
theorem qNil_ok {L : SLS tb} {G o y} {k : SV tb → List Nat → Option ρ} {r} (ho : o.op = .nilCheck y) (h : qNil L G y k = some r) : QOk P L G o k r := by
  unfold qNil at h
  obtain ⟨a, ha, h⟩ := got_e h
  have hy := fun u => opd_ok (L := L) (G := G) u ha
  split at h
  · exact ⟨_, [], h, fun u => QEx.nilC ho (hy u)⟩
  · exact ⟨_, [], h, fun u => QEx.nilP ho (hy u)⟩
  · exact ⟨_, [], h, fun u => QEx.nilP ho (hy u)⟩
  · cases h
theorem qSlice3_ok {L : SLS tb} {G o t y hi mx} {k : SV tb → List Nat → Option ρ} {r} (ho : o.op = .slice t y none (some hi) (some mx)) (h : qSlice3 P L G t y hi mx k = some r) : QOk P L G o k r := by
  unfold qSlice3 at h
  obtain ⟨a, ha, h⟩ := got_e h
  obtain ⟨b, hb, h⟩ := got_e h
  obtain ⟨p, hp, h⟩ := got_e h
  obtain ⟨c, hc1, h⟩ := got_e h
  obtain ⟨q, hq, h⟩ := got_e h
  have hy := fun u => opd_ok (L := L) (G := G) u ha
  have hz := fun u => opd_ok (L := L) (G := G) u hb
  have hw := fun u => opd_ok (L := L) (G := G) u hc1
  rw [asI_e hp] at hz
  rw [asI_e hq] at hw
  split at h
  · obtain ⟨ET, hE, h⟩ := got_e h
    obtain ⟨hc, h⟩ := chk_e h
    refine ⟨_, [], h, fun u => ?_⟩
    obtain ⟨h1, h2, h3⟩ := hc u.on
    rw [h3] at hw
    have := QEx.slice3 ho (elemT_e hE) (hy u) (hz u) (hw u) h1 (by rw [List.length_map]; exact h2)
    simp only [SV.av, List.map_take]; exact this
  · cases h

/-- A string of the bytes of an own slice. -/
def qConv2 (cx : Ctx P tb) (L : SLS tb) (G : Gd) (s d : Nat) (y : Operand) (k : SV tb → List Nat → Option ρ) : Option ρ :=
  got (opd L G y) fun a => match a with
  | .rw id E => got (P.underlying d) fun D => got (P.underlying s) fun S => tst (isStrD D) <| got (isSlD S) fun E' => got (P.underlying E') fun ED => got (isIntD ED) fun ke => tst (isU8 ke) <| got (arrAt L id E) fun l => got (bytesOf tb E l) fun bs => k (.st bs) [id]
  | .row id E off len mc => got (P.underlying d) fun D => got (P.underlying s) fun S => tst (isStrD D) <| got (isSlD S) fun E' => got (P.underlying E') fun ED => got (isIntD ED) fun ke => tst (isU8 ke) <| got (arrAt L id E) fun l => chk G (off + len ≤ l.length) <| got (bytesOf tb E ((l.drop off).take len)) fun bs => k (.st bs) [id]
  | _ => qConv P L G s d y k
theorem elC_one {E : tb.Ix} {l : List (tb.T E)} {bs : List UInt8} (h : l.map (tb.el E) = bs.map byteAV) : elC tb E l = bs.map byteAV := by
  unfold elC; rw [h, flat_bytes]
theorem qConv2_ok {L : SLS tb} {G o s d y} {k : SV tb → List Nat → Option ρ} {r} (ho : o.op = .convert s d y) (h : qConv2 cx L G s d y k = some r) : QOk P L G o k r := by
  unfold qConv2 at h
  obtain ⟨a, ha, h2⟩ := got_e h
  have hy := fun u => opd_ok (L := L) (G := G) u ha
  clear h
  cases a with
  | rw id E =>
    obtain ⟨D, hD, h⟩ := got_e h2; clear h2
    obtain ⟨S, hS, h⟩ := got_e h
    obtain ⟨h1, h⟩ := tst_e h
    obtain ⟨E', hE, h⟩ := got_e h
    obtain ⟨ED, hED, h⟩ := got_e h
    obtain ⟨ke, hke, h⟩ := got_e h
    obtain ⟨h3, h⟩ := tst_e h
    obtain ⟨l, hl, h⟩ := got_e h
    obtain ⟨bs, hbs, h⟩ := got_e h
    have hl := arrAt_e hl
    rw [isStrD_e h1] at hD
    rw [isSlD_e hE] at hS
    rw [isIntD_e hke, isU8_e h3] at hED
    obtain ⟨g1, g2⟩ := bytesOf_e hbs
    have hlen : l.length = bs.length := by simpa using congrArg List.length g2
    refine ⟨_, _, h, fun u => ?_⟩
    rw [needAV_one hl]
    have hr := ROk.rw (o := o) (need := [(id, elC tb E l)]) (xs := l.map (tb.el E)) (hy u) (by simp [ho, Op.operands]) (show _ ∈ [(id, elC tb E l)] from mem1) (elC_len cx.ok) (cx.ok E).pos
    rw [g1] at hr
    refine QEx.rowStr ho hS hED hD hr mem1 ?_ (by rw [List.length_map, hlen])
    rw [elC_one g2, List.drop_zero, List.length_map, hlen, ← List.length_map (f := byteAV), List.take_length]
  | row id E off len mc =>
    obtain ⟨D, hD, h⟩ := got_e h2; clear h2
    obtain ⟨S, hS, h⟩ := got_e h
    obtain ⟨h1, h⟩ := tst_e h
    obtain ⟨E', hE, h⟩ := got_e h
    obtain ⟨ED, hED, h⟩ := got_e h
    obtain ⟨ke, hke, h⟩ := got_e h
    obtain ⟨h3, h⟩ := tst_e h
    obtain ⟨l, hl, h⟩ := got_e h
    obtain ⟨hc, h⟩ := chk_e h
    obtain ⟨bs, hbs, h⟩ := got_e h
    have hl := arrAt_e hl
    rw [isStrD_e h1] at hD
    rw [isSlD_e hE] at hS
    rw [isIntD_e hke, isU8_e h3] at hED
    obtain ⟨g1, g2⟩ := bytesOf_e hbs
    refine ⟨_, _, h, fun u => ?_⟩
    have hc := hc u.on
    rw [needAV_one hl]
    have hr := (hy u).r (o := o) (need := [(id, elC tb E l)]) (by simp [ho, Op.operands])
    simp only [SV.av] at hr
    rw [g1, Nat.mul_one] at hr
    have hlen : bs.length = len := by
      have := congrArg List.length g2
      rw [List.length_map, List.length_map, List.length_take, List.length_drop] at this
      omega
    refine QEx.rowStr ho hS hED hD hr mem1 ?_ hlen
    rw [← g2]
    unfold elC
    have h5 := flat_drop (sz := 1) (l := l.map (tb.el E)) off (by rw [← g1]; exact elC_len cx.ok)
    rw [Nat.mul_one] at h5
    rw [h5, ← List.map_drop]
    have h6 := flat_take (sz := 1) (l := (l.drop off).map (tb.el E)) len (by rw [← g1]; exact elC_len cx.ok)
    rw [Nat.mul_one] at h6
    rw [h6, ← List.map_take, g2, flat_bytes]
  | _ => exact qConv_ok ho h2
end
end Go.Rx
end
